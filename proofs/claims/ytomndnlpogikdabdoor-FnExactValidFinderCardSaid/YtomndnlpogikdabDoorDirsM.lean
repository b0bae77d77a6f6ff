/-
  Walks: marks written into directories; finders that forget all; the laws on finders.
-/
import Derived.Test.YtomndnlpogikdabDoorDirsW
import Derived.Test.YtomndnlpogikdabDoorOpen
namespace Imp
open Go Go.RowKit
def nmsT : List DR → Nat
  | [] => 0
  | s :: r => s.1.names.length + nmsT r
theorem nmsT_snoc : ∀ (l : List DR) (s : DR), nmsT (l ++ [s]) = nmsT l + s.1.names.length
  | [], s => by simp [nmsT]
  | x :: l, s => by rw [List.cons_append, nmsT, nmsT_snoc l s, nmsT]; omega
theorem nmsT_take {l : List DR} {k : Nat} (h : k < l.length) : nmsT (l.take (k + 1)) = nmsT (l.take k) + l[k].1.names.length := by
  rw [List.take_succ_eq_append_getElem h, nmsT_snoc]
theorem nmsT_app : ∀ (a b : List DR), nmsT (a ++ b) = nmsT a + nmsT b
  | [], b => by simp [nmsT]
  | x :: a, b => by rw [List.cons_append, nmsT, nmsT, nmsT_app a b]; omega
theorem nmsT_take_le (l : List DR) (k : Nat) : nmsT (l.take k) ≤ nmsT l := by
  have := nmsT_app (l.take k) (l.drop k)
  rw [List.take_append_drop] at this
  omega
theorem nmsT_totD : ∀ l : List DR, nmsT l ≤ totD l
  | [] => by simp [nmsT, totD]
  | x :: l => by have := nmsT_totD l; rw [nmsT, totD, szD]; omega
theorem nmsT_map : ∀ {l m : List DR}, l.map (·.1) = m.map (·.1) → nmsT l = nmsT m
  | [], [], _ => rfl
  | x :: l, [], h => by simp at h
  | [], y :: m, h => by simp at h
  | x :: l, y :: m, h => by
    rw [List.map_cons, List.map_cons] at h
    injection h with h1 h2
    rw [nmsT, nmsT, h1, nmsT_map h2]
/-- What is left of a finder that forgets all. -/
def fFor (T : List Dr) (fills hits : Int) : Int × Int := if okFd T fills hits then (fills, hits) else (0, 0)
end Imp
namespace Go.Proofs.YtomndnlpogikdabDoor
open Go Go.RowKit Go.ChangeShapes Go.WideShapes Go.ChangeAt Go.Deep Imp
set_option linter.unusedVariables false
set_option linter.unusedSimpArgs false
section
variable {H : Type} {enc : TypeId × Value → H} {W : World} {base : Nat} {v : Value} {d : DataW H} {p : List MemPlace}
set_option maxRecDepth 100000 in
theorem row_dir {n : Nat} {cs : List Value} {y : DataW H × List MemPlace} {base : Nat} {spare : Nat → Bool} {held : Bool} (h : DataW.trod enc Tryd.prog W base spare held n 62 cs = some y) : ∃ z : DR, cs = eDr z ∧ (okD z.1 ∧ NmR W 0 W.heap.size z) := by
  obtain ⟨xs, n', _, _, hl, hxs, hf⟩ := DataW.trod_struct Tryd.underlying62 h
  have hl4 : cs.length = 4 := hl.trans (by kernel_rfl)
  obtain ⟨a, ha, qa⟩ := field_int (by kernel_rfl) Tryd.underlying3 (some_at hxs (by decide)) (hf 0 _ rfl)
  obtain ⟨b, hb, qb⟩ := field_string (by kernel_rfl) Tryd.underlying9 (some_at hxs (by decide)) (hf 1 _ rfl)
  obtain ⟨c, hc, qc⟩ := field_int (by kernel_rfl) Tryd.underlying3 (some_at hxs (by decide)) (hf 2 _ rfl)
  obtain ⟨u, hu, L, hL, qL⟩ := field_rows (k := 1) eS (fun s => s.size ≤ maxLen) (by kernel_rfl) Tryd.underlying42 (by kernel_rfl) (by decide) (fun n cs' y hy => by
    obtain ⟨s, rfl, _, hs⟩ := DataW.trod_string Tryd.underlying9 hy
    exact ⟨s, rfl, hs⟩) (some_at hxs (by decide)) (hf 3 _ rfl)
  refine ⟨(⟨a, b, c, L⟩, u), ?_, ⟨qa, qb, qc, qL⟩, hL⟩
  match cs, hl4 with
  | [x0, x1, x2, x3], _ =>
    have ha : x0 = _ := Option.some.inj ha
    have hb : x1 = _ := Option.some.inj hb
    have hc : x2 = _ := Option.some.inj hc
    have hu : x3 = _ := Option.some.inj hu
    rw [ha, hb, hc, hu]; rfl
set_option maxRecDepth 100000 in
theorem open_arg_finder (hv : Value.okWide Tryd.prog W .any base 24 v) (h : DataW.Trod enc Tryd.prog W 0 (fun _ => true) true 24 v d p) (_hs : (DataW.weights Tryd.prog 24 d).all (fun x => decide (x ≤ reachBytes)) = true) :
    ∃ L : List DR, ∃ u, ∃ fills hits : Int, v = vFd u fills hits ∧ DsR W 0 W.heap.size u L ∧ (∀ r ∈ L, okD r.1) ∧ okI fills ∧ okI hits := by
  obtain ⟨cs, rfl, _⟩ := okWide_struct Tryd.underlying24 hv
  obtain ⟨fuel, hf⟩ := h
  obtain ⟨xs, n', _, _, hl, hxs, hf⟩ := DataW.trod_struct Tryd.underlying24 hf
  have hl3 : (Value.cells (.agg cs)).toList.length = 3 := hl.trans (by kernel_rfl)
  obtain ⟨u, hu, L, hL, qL⟩ := field_rows (k := 4) eDr (fun z : DR => okD z.1 ∧ NmR W 0 W.heap.size z) (by kernel_rfl) Tryd.underlying22 (by kernel_rfl) (by decide) (fun n cs' y hy => row_dir hy) (some_at hxs (by decide)) (hf 0 _ rfl)
  obtain ⟨a, ha, qa⟩ := field_int (by kernel_rfl) Tryd.underlying3 (some_at hxs (by decide)) (hf 1 _ rfl)
  obtain ⟨b, hb, qb⟩ := field_int (by kernel_rfl) Tryd.underlying3 (some_at hxs (by decide)) (hf 2 _ rfl)
  have hu' : cs.toList[0]? = some u := by simpa [Value.cells] using hu
  have ha' : cs.toList[1]? = some (.int .i64 a) := by simpa [Value.cells] using ha
  have hb' : cs.toList[2]? = some (.int .i64 b) := by simpa [Value.cells] using hb
  have hl3' : cs.toList.length = 3 := by simpa [Value.cells] using hl3
  have e' : cs.toList = [u, .int .i64 a, .int .i64 b] := by
    match hcs : cs.toList, hl3' with
    | [x0, x1, x2], _ =>
      rw [hcs] at hu' ha' hb'
      have h0 : x0 = u := Option.some.inj hu'
      have h1 : x1 = _ := Option.some.inj ha'
      have h2 : x2 = _ := Option.some.inj hb'
      rw [h0, h1, h2]
  have : cs = #[u, .int .i64 a, .int .i64 b] := by
    have := congrArg List.toArray e'
    simpa using this
  exact ⟨L, u, a, b, by rw [this], ⟨hL, fun r hr => (qL r hr).2⟩, fun r hr => (qL r hr).1, qa, qb⟩
end
theorem walk_FnExactValidFinder (w : World) (hok : OkW w) (v : Value) (L : List DR) (hL : ∃ u, ∃ fills hits : Int, v = vFd u fills hits ∧ DsR w 0 w.heap.size u L ∧ (∀ r ∈ L, okD r.1) ∧ okI fills ∧ okI hits) :
    Calls Tryd.prog 3 #[v] w fun e w' => e = .returned (.bool true) ∧ Below w.heap.size w w' := by
  obtain ⟨u, fills, hits, rfl, hfl, hsz, _, _⟩ := hL
  obtain ⟨ua, uc, rfl, _, _⟩ := hfl.1.form
  have hA := heap_alloc_new w (.cells #[.slice ua L.length uc, .int .i64 fills, .int .i64 hits] 24)
  have hgA := gr_al w (.cells #[.slice ua L.length uc, .int .i64 fills, .int .i64 hits] 24)
  have hbW := fun W (h : Gr w W) => hfl.below h (Nat.le_refl _)
  have HB := Lib.hid hbW
  have HA := Lib.hid hA
  clear hfl hbW hA
  go_enter Tryd.func3, Tryd.ntmps3
  go_wp2_with fail
  refine (szFinder_any _ L fills hits _ _ (HB.out _ hgA) (by simp) hsz (by omega) (by omega)).mono ?_
  rintro e w1 ⟨q, rfl, hq, hql, hb1⟩
  have hg1 := Gr.tr hgA hb1
  by_cases h0 : q < 0
  · go_wp2
    go_ret
    exact ⟨rfl, hg1⟩
  · have htot := hq (by omega)
    have hlen : L.length ≤ 1048576 := by omega
    have hszF : ∀ r ∈ L, szD r.1 ≤ 1048576 := fun r hr => by have := totD_mem hr; omega
    have hbn : ∀ r ∈ L, r.1.names.length ≤ 1048576 := fun r hr => by have := hszF r hr; unfold szD at this; omega
    have hsmL : ∀ r ∈ L, SmD r := fun r hr => by
      have := hszF r hr
      unfold szD at this
      show r.1.pkg.size ≤ _
      omega
    have h1 := fun lo hi vv (M : List DR) W k h (e : M.map (·.1) = L.map (·.1)) h' => sValidFinder_any (lo := lo) (hi := hi) vv M fills hits W k h h' (smD_of hsmL e)
    have h2 := fun lo hi vv (M : List DR) W k h (e : M.map (·.1) = L.map (·.1)) h' => iValidFinder_any (lo := lo) (hi := hi) vv M fills hits W k h h' (smD_of hsmL e)
    have h3 := fun W (h : Gr w W) => toFinder_own _ L fills hits W (HB.out _ h) h.size hlen hbn
    obtain ⟨R, hR⟩ : ∃ R, R = okFd (L.map (·.1)) fills hits := ⟨_, rfl⟩
    have h1' : ∀ lo hi vv (M : List DR) W, OkW W → DsR W lo hi vv M → M.map (·.1) = L.map (·.1) → hi ≤ W.heap.size → Calls Tryd.prog 7 #[vFd vv fills hits] W fun e w' => e = .returned (.bool R) ∧ Gr W w' := by
      intro lo hi vv M W k h e h'
      have := h1 lo hi vv M W k h e h'
      rwa [e, ← hR] at this
    have h2' : ∀ lo hi vv (M : List DR) W, OkW W → DsR W lo hi vv M → M.map (·.1) = L.map (·.1) → hi ≤ W.heap.size → Calls Tryd.prog 9 #[vFd vv fills hits] W fun e w' => e = .returned (.bool R) ∧ Gr W w' := by
      intro lo hi vv M W k h e h'
      have := h2 lo hi vv M W k h e h'
      rwa [e, ← hR] at this
    have q2 : (R != R) = false := by simp
    have H1 := Lib.hid h1'
    have H2 := Lib.hid h2'
    have H3 := Lib.hid h3
    clear hq hql htot hR h1 h2 h3 h1' h2' hsz hszF hbn hsmL
    obtain ⟨⟨c0, c1, c2⟩, _⟩ := rows3 ((hb1.block _ (by simp)).trans HA.out)
    have hgB := hb1
    go_wp2_with fail
    refine (H3.out _ hg1).mono ?_
    rintro e w2 ⟨u2, rfl, M2, hM2, ho2, hb2⟩
    have hg2 := hg1.tr hb2
    go_wp2_with fail
    refine (H1.out _ _ u2 M2 _ (hok.gr hg2) ho2.reads hM2 (Nat.le_refl _)).mono ?_
    rintro e w3 ⟨rfl, hb3⟩
    have hg3 := hg2.tr hb3
    have hgB := (hgB.tr hb2).tr hb3
    clear c0 c1 c2
    obtain ⟨⟨c0, c1, c2⟩, _⟩ := rows3 ((hgB.block _ (by simp)).trans HA.out)
    go_wp2_with fail
    refine (H3.out _ hg3).mono ?_
    rintro e w4 ⟨u4, rfl, M4, hM4, ho4, hb4⟩
    have hg4 := hg3.tr hb4
    have hgB := hgB.tr hb4
    obtain ⟨a4, k4, e4, _, _⟩ := ho4.1.form
    have hX := heap_alloc_new w4 (.cells #[u4, .int .i64 fills, .int .i64 hits] 29)
    have hgX := gr_al w4 (.cells #[u4, .int .i64 fills, .int .i64 hits] 29)
    have r4 := fun W (h : Gr w4 W) => ho4.reads.below h (Nat.le_refl _)
    have R4 := Lib.hid r4
    have HX := Lib.hid hX
    have HM4 := Lib.hid hM4
    clear hX r4 c0 c1 c2 hM2 ho2 ho4 hM4
    subst e4
    go_wp2_with fail
    refine (H2.out _ _ _ M4 _ (hok.gr (hg4.tr hgX)) (R4.out _ hgX) HM4.out hgX.size).mono ?_
    rintro e w5 ⟨rfl, hb5⟩
    have hg5 := (hg4.tr hgX).tr hb5
    have hall : ∀ W, Gr w5 W → Gr w5 W ∧ (W.cell? ⟨w.heap.size, 0, none⟩ = some (.slice ua L.length uc) ∧ W.cell? ⟨w.heap.size, 1, none⟩ = some (.int .i64 fills) ∧ W.cell? ⟨w.heap.size, 2, none⟩ = some (.int .i64 hits)) ∧
        (W.cell? ⟨w4.heap.size, 0, none⟩ = some (.slice a4 M4.length k4) ∧ W.cell? ⟨w4.heap.size, 1, none⟩ = some (.int .i64 fills) ∧ W.cell? ⟨w4.heap.size, 2, none⟩ = some (.int .i64 hits)) :=
      fun W h => ⟨h, (rows3 (((((hgB.tr hgX).tr hb5).tr h).block _ (by simp)).trans HA.out)).1, (rows3 (((hb5.tr h).block _ (by simp)).trans HX.out)).1⟩
    have HALL := Lib.hid hall
    clear hall
    go_wp2
    refine wp_region_held_drew (S := (fun W => Gr w5 W ∧ (W.cell? ⟨w.heap.size, 0, none⟩ = some (.slice ua L.length uc) ∧ W.cell? ⟨w.heap.size, 1, none⟩ = some (.int .i64 fills) ∧ W.cell? ⟨w.heap.size, 2, none⟩ = some (.int .i64 hits)) ∧ (W.cell? ⟨w4.heap.size, 0, none⟩ = some (.slice a4 M4.length k4) ∧ W.cell? ⟨w4.heap.size, 1, none⟩ = some (.int .i64 fills) ∧ W.cell? ⟨w4.heap.size, 2, none⟩ = some (.int .i64 hits)))) (by kernel_rfl) (HALL.out _ (below_drewN (Gr.rfl' w5) 1)) (fun hS0 => ?_)
    refine wpAnyH_take (i := 0) (v := ?_) rfl (by kernel_rfl) (by kernel_rfl) (by kernel_rfl) (fun _ _ _ h => h) (Or.inl ⟨by rfl, ?_⟩) hS0 ?_
    rotate_left
    · (intro W hSw; (try dsimp only at hSw); go_simp; try (with_reducible rfl))
    try simp only [Act.put, List.getElem_toArray, List.getElem_cons_succ, List.getElem_cons_zero, List.setIfInBounds_toArray, List.set_cons_zero, List.set_cons_succ]
    refine wpAnyH_take (i := 1) (v := ?_) rfl (by kernel_rfl) (by kernel_rfl) (by kernel_rfl) (fun _ _ _ h => h) (Or.inl ⟨by rfl, ?_⟩) hS0 ?_
    rotate_left
    · (intro W hSw; (try dsimp only at hSw); go_simp; try (with_reducible rfl))
    try simp only [Act.put, List.getElem_toArray, List.getElem_cons_succ, List.getElem_cons_zero, List.setIfInBounds_toArray, List.set_cons_zero, List.set_cons_succ]
    refine wpAnyH_ready (rs := [2]) (by kernel_rfl) (by simp) ?_
    refine AllReadyH.cons rfl (fun K hK => ?_) AllReadyH.nil
    go_simp
    refine (H3.out _ (hg5.tr hS0.1)).mono ?_
    rintro e w6 ⟨u6, rfl, M6, hM6, ho6, hb6⟩
    try go_wp2_with fail
    refine hK.out _ _ (HALL.out _ (hS0.1.tr hb6)) (fun hS1 => ?_)
    clear hK K
    try simp only [Act.put, List.getElem_toArray, List.getElem_cons_succ, List.getElem_cons_zero, List.setIfInBounds_toArray, List.set_cons_zero, List.set_cons_succ]
    refine wpAnyH_ready (rs := [3]) (by kernel_rfl) (by simp) ?_
    refine AllReadyH.cons rfl (fun K hK => ?_) AllReadyH.nil
    go_simp
    refine (eqFinder_any _ u6 M4 M6 fills hits _ (R4.out _ ((hgX.tr hb5).tr hS1.1)) ho6.reads (HM4.out.trans hM6.symm) ((hgX.tr hb5).tr hS1.1).size (Nat.le_refl _)).mono ?_
    rintro e w7 ⟨rfl, hb7⟩
    try go_wp2_with fail
    refine hK.out _ _ (HALL.out _ (hS1.1.tr hb7)) (fun hS2 => ?_)
    clear hK K
    try simp only [Act.put, List.getElem_toArray, List.getElem_cons_succ, List.getElem_cons_zero, List.setIfInBounds_toArray, List.set_cons_zero, List.set_cons_succ]
    refine wpAnyH_take (i := 4) (v := ?_) rfl (by kernel_rfl) (by kernel_rfl) (by kernel_rfl) (fun _ _ _ h => h) (Or.inl ⟨by rfl, ?_⟩) hS2 ?_
    rotate_left
    · (intro W hSw; (try dsimp only at hSw); go_simp; try (with_reducible rfl))
    try simp only [Act.put, List.getElem_toArray, List.getElem_cons_succ, List.getElem_cons_zero, List.setIfInBounds_toArray, List.set_cons_zero, List.set_cons_succ]
    refine wpAnyH_done (by kernel_rfl) ?_ _
    go_wp2
    go_ret
    exact ⟨rfl, hg5.tr hS2.1⟩
end Go.Proofs.YtomndnlpogikdabDoor
