/-
  Walks over files and trees: where a file lies.
-/
import Derived.Test.YthjegibkbpafeaaDoorZ6
namespace Go.Proofs.YthjegibkbpafeaaDoor
open Go Go.RowKit Imp
set_option linter.unusedVariables false

theorem ret_i {a b : Int} (h : a = b) : Ending.returned (.int .i64 a) = .returned (.int .i64 b) := by rw [h]
theorem sfileAt_any {lo hi : Nat} (v : Value) (L : List FR) (f : FR) (w : World) (hv0 : SlR w lo hi 6 eF v L) (hhi : hi ≤ w.heap.size) :
    Calls Tryd.prog 44 #[.agg #[v], vF f] w fun e w' => e = .returned (.int .i64 (ix (fun r : FR => sameP r.1 f.1) L)) ∧ Gr w w' := by
  obtain ⟨a, c, rfl, h1, h2, h3⟩ := hv0
  unfold maxLen at h2
  obtain ⟨R, hR⟩ : ∃ R, R = ix (fun r : FR => sameP r.1 f.1) L := ⟨_, rfl⟩
  rw [← hR]
  have HR := Lib.hid hR
  clear hR
  go_enter Tryd.func44, Tryd.ntmps44
  go_wp2
  go_loopw [5] (fun i wr => ∃ k : Nat, k ≤ L.length ∧ i = .int .i64 k ∧ (L.take k).any (fun r : FR => sameP r.1 f.1) = false ∧ Gr ((w.alloc (.cells #[.slice a L.length c] 29)).alloc (.cells #[.int .i64 f.1.root, .string f.1.pkg, .string f.1.name, .bool f.1.init, .int .i64 f.1.stamp, f.2] 40)) wr) (fun i _ => L.length - (intOf i).toNat)
  case atStart => exact ⟨0, Nat.zero_le _, rfl, by simp, Gr.rfl' _⟩
  case round =>
    obtain ⟨k, hk, rfl, hall, hgr⟩ := hrel
    have H := Lib.hid hall
    clear hall
    have hgs := hgr.size
    simp at hgs
    have t0 := hgr.cell (p := ⟨w.heap.size, 0, none⟩) (by simp <;> omega)
    have g0 := hgr.cell (p := ⟨w.heap.size + 1, 0, none⟩) (by simp <;> omega)
    have g1 := hgr.cell (p := ⟨w.heap.size + 1, 1, none⟩) (by simp <;> omega)
    have g2 := hgr.cell (p := ⟨w.heap.size + 1, 2, none⟩) (by simp <;> omega)
    have g3 := hgr.cell (p := ⟨w.heap.size + 1, 3, none⟩) (by simp <;> omega)
    have g4 := hgr.cell (p := ⟨w.heap.size + 1, 4, none⟩) (by simp <;> omega)
    have g5 := hgr.cell (p := ⟨w.heap.size + 1, 5, none⟩) (by simp <;> omega)
    have hgw : Gr w wr := Gr.tr (gr_al2 w _ _) hgr
    by_cases hlt : k < L.length
    · obtain ⟨b, o, rfl, hbb, hc⟩ := h3 k hlt
      obtain ⟨x, hx⟩ : ∃ x, x = L[k] := ⟨_, rfl⟩
      obtain ⟨c0, c1, c2, c3, c4, c5⟩ := cells_fil (w := wr) (b := b) (o := o) (k := k) (x := x) (fun j u hu => (hgw.cell (p := ⟨b, o + k * 6 + j, none⟩) (Nat.lt_of_lt_of_le hbb.2 hhi)).trans (hc j u (by rw [← hx]; exact hu)))
      have hsm := fun n => ssame_any x f (wr.drewN n)
      obtain ⟨S, hS⟩ : ∃ S, S = sameP x.1 f.1 := ⟨_, rfl⟩
      rw [← hS] at hsm
      have HS := Lib.hid hS
      have HSM := Lib.hid hsm
      have HX := Lib.hid hx
      clear hc h3 hx hS hsm
      cases S
      · go_wp2
        go_region_law (go_simp
                       go_at_call 58
                       refine (HSM.out 1).mono ?_
                       rintro e w2 ⟨rfl, hb2⟩)
        all_goals go_wp2
        all_goals go_roundw
        all_goals first
          | exact ⟨k + 1, by omega, by go_num, by rw [any_take_succ _ _ _ hlt, H.out, ← HX.out, ← HS.out]; rfl, Gr.tr (below_drewN hgr 1) hb2⟩
          | (simp [intOf]; omega)
      · go_wp2
        go_region_law (go_simp
                       go_at_call 58
                       refine (HSM.out 1).mono ?_
                       rintro e w2 ⟨rfl, hb2⟩)
        all_goals go_wp2
        all_goals go_ret
        all_goals exact ⟨ret_i (by rw [HR.out]; exact (ix_hit hlt H.out (by rw [← HX.out]; exact HS.out.symm)).symm), Gr.tr (below_drewN hgw 1) hb2⟩
    · go_wp2
      go_ret
      exact ⟨ret_i (by rw [HR.out]; exact (ix_none (by rw [← List.take_of_length_le (show L.length ≤ k by omega)]; exact H.out)).symm), hgw⟩
end Go.Proofs.YthjegibkbpafeaaDoor

/-
  Walks: equality of bodies, files and trees in the laws. Printed by treew.py.
-/
namespace Go.Proofs.YthjegibkbpafeaaDoor
open Go Go.RowKit Imp
set_option linter.unusedVariables false
set_option linter.unusedSimpArgs false
theorem equalBodyT_any {lo hi lo' hi' : Nat} (v u : Value) (L : List Stm) (w : World) (hv : SlR w lo hi 5 eSt v L) (hu : SlR w lo' hi' 5 eSt u L) :
    Calls Tryd.prog 32 #[v, u] w fun e w' => e = .returned (.bool true) ∧ Gr w w' := by
  obtain ⟨a, c, rfl, h1, h2, h3⟩ := hv
  obtain ⟨a', c', rfl, h1', h2', h3'⟩ := hu
  unfold maxLen at h2 h2'
  go_enter Tryd.func32, Tryd.ntmps32
  go_wp2
  go_loopw [5] (fun i wr => ∃ k n : Nat, k ≤ L.length ∧ i = .int .i64 k ∧ wr = w.drewN n) (fun i _ => L.length - (intOf i).toNat)
  case atStart => exact ⟨0, 0, Nat.zero_le _, rfl, rfl⟩
  case round =>
    obtain ⟨k, n, hk, rfl, rfl⟩ := hrel
    by_cases hlt : k < L.length
    · obtain ⟨b, o, rfl, _, hc⟩ := h3 k hlt
      obtain ⟨b', o', rfl, _, hc'⟩ := h3' k hlt
      obtain ⟨x, hx⟩ : ∃ x, x = L[k] := ⟨_, rfl⟩
      rw [← hx] at hc hc'
      obtain ⟨c0, c1, c2, c3, c4⟩ := cells_stm (w := w) (b := b) (o := o) (k := k) (x := x) hc
      obtain ⟨d0, d1, d2, d3, d4⟩ := cells_stm (w := w) (b := b') (o := o') (k := k) (x := x) hc'
      have q0 : (x.kind == x.kind) = true := by simp
      have q1 : (x.mod.toList == x.mod.toList) = true := by simp
      have q2 : (x.level == x.level) = true := by simp
      have q3 : (x.name.toList == x.name.toList) = true := by simp
      have q4 : (x.value == x.value) = true := by simp
      clear hc hc' h3 h3' hx
      go_wp2
      go_quiet (fail)
      go_wp2
      go_roundw
      case rel => exact ⟨k + 1, _, by omega, by go_num, rfl⟩
      case measure => simp [intOf]; omega
    · go_wp2
      go_ret
      exact ⟨rfl, below_drewN (Gr.rfl' _) _⟩
theorem equalFile_any {lo hi lo' hi' : Nat} (f : Fil) (u v : Value) (w : World) (hu : SlR w lo hi 5 eSt u f.body) (hv : SlR w lo' hi' 5 eSt v f.body) (hhi : hi ≤ w.heap.size) (hhi' : hi' ≤ w.heap.size) :
    Calls Tryd.prog 16 #[vF (f, u), vF (f, v)] w fun e w' => e = .returned (.bool true) ∧ Gr w w' := by
  have h := fun o o' => equalBodyT_any u v f.body ((w.alloc o).alloc o') (SlR.below hu (gr_al2 w o o') hhi) (SlR.below hv (gr_al2 w o o') hhi')
  have H := Lib.hid h
  clear h
  obtain ⟨root, pkg, name, init, stamp, body⟩ := f
  obtain ⟨ua, uc, rfl, _, _⟩ := hu.form
  obtain ⟨va, vc, rfl, _, _⟩ := hv.form
  have q1 : (pkg.toList == pkg.toList) = true := by simp
  have q2 : (root == root) = true := by simp
  have q3 : (init == init) = true := by simp
  have q4 : (name.toList == name.toList) = true := by simp
  have q5 : (stamp == stamp) = true := by simp
  go_enter Tryd.func16, Tryd.ntmps16
  go_wp2_with fail
  refine (H.out _ _).mono ?_
  rintro e w2 ⟨rfl, hb2⟩
  go_wp2
  go_ret
  exact ⟨rfl, (gr_al2 _ _ _).tr hb2⟩
theorem equalTree_any {lo hi lo' hi' : Nat} (v u : Value) (L M : List FR) (w : World) (hv0 : FlR w lo hi v L) (hu0 : FlR w lo' hi' u M) (he : L.map (·.1) = M.map (·.1)) (hhi : hi ≤ w.heap.size) (hhi' : hi' ≤ w.heap.size) :
    Calls Tryd.prog 15 #[.agg #[v], .agg #[u]] w fun e w' => e = .returned (.bool true) ∧ Gr w w' := by
  obtain ⟨hv, hvb⟩ := hv0
  obtain ⟨hu, hub⟩ := hu0
  obtain ⟨a, c, rfl, h1, h2, h3⟩ := hv
  obtain ⟨a', c', rfl, h1', h2', h3'⟩ := hu
  unfold maxLen at h2 h2'
  have hl : L.length = M.length := by have := congrArg List.length he; simpa using this
  have hl0 : ((L.length : Int) != (M.length : Int)) = false := by simp [hl]
  have hat : ∀ k (h : k < L.length) (h' : k < M.length), L[k].1 = M[k].1 := by
    intro k h h'
    have e1 : (L.map (·.1))[k]? = (M.map (·.1))[k]? := by rw [he]
    rw [List.getElem?_map, List.getElem?_map, List.getElem?_eq_getElem h, List.getElem?_eq_getElem h'] at e1
    injection e1
  have HAT := Lib.hid hat
  have HVB := Lib.hid hvb
  have HUB := Lib.hid hub
  have HL := Lib.hid hl
  clear hat hvb hub he hl
  go_enter Tryd.func15, Tryd.ntmps15
  go_wp2
  go_loopw [5] (fun i wr => ∃ k : Nat, k ≤ L.length ∧ i = .int .i64 k ∧ Gr ((w.alloc (.cells #[.slice a L.length c] 29)).alloc (.cells #[.slice a' M.length c'] 29)) wr) (fun i _ => L.length - (intOf i).toNat)
  case atStart => exact ⟨0, Nat.zero_le _, rfl, Gr.rfl' _⟩
  case round =>
    obtain ⟨k, hk, rfl, hgr0⟩ := hrel
    have hgs0 := hgr0.size
    simp at hgs0
    have t0 := hgr0.cell (p := ⟨w.heap.size, 0, none⟩) (by simp <;> omega)
    have g0 := hgr0.cell (p := ⟨w.heap.size + 1, 0, none⟩) (by simp <;> omega)
    have hgr : Gr w wr := Gr.tr (gr_al2 w _ _) hgr0
    by_cases hlt : k < L.length
    · have hlm : k < M.length := by have := HL.out; omega
      obtain ⟨b, o, rfl, hbb, hc⟩ := h3 k hlt
      obtain ⟨b', o', rfl, hbb', hc'⟩ := h3' k hlm
      obtain ⟨x, hx⟩ : ∃ x, x = L[k] := ⟨_, rfl⟩
      obtain ⟨y, hy⟩ : ∃ y, y = M[k] := ⟨_, rfl⟩
      obtain ⟨c0, c1, c2, c3, c4, c5⟩ := cells_fil (w := wr) (b := b) (o := o) (k := k) (x := x) (fun j u hu => (hgr.cell (p := ⟨b, o + k * 6 + j, none⟩) (Nat.lt_of_lt_of_le hbb.2 hhi)).trans (hc j u (by rw [← hx]; exact hu)))
      obtain ⟨d0, d1, d2, d3, d4, d5⟩ := cells_fil (w := wr) (b := b') (o := o') (k := k) (x := y) (fun j u hu => (hgr.cell (p := ⟨b', o' + k * 6 + j, none⟩) (Nat.lt_of_lt_of_le hbb'.2 hhi')).trans (hc' j u (by rw [← hy]; exact hu)))
      have hbx := HVB.out _ (List.getElem_mem hlt)
      have hby := HUB.out _ (List.getElem_mem hlm)
      rw [← hx] at hbx
      rw [← hy] at hby
      have hxy := HAT.out k hlt hlm
      rw [← hx, ← hy] at hxy
      obtain ⟨f, bx⟩ := x
      obtain ⟨g, by'⟩ := y
      simp only at hxy
      subst hxy
      have hgs := hgr.size
      have hcall := fun n => equalFile_any f bx by' (wr.drewN n) (SlR.drewN (SlR.below hbx hgr hhi) n) (SlR.drewN (SlR.below hby hgr hhi') n) (by show hi ≤ wr.heap.size; omega) (by show hi' ≤ wr.heap.size; omega)
      have HC := Lib.hid hcall
      clear hc h3 hc' h3' hx hy hbx hby hcall
      go_wp2
      go_region_law (go_simp
                     go_at_call 16
                     refine (HC.out 1).mono ?_
                     rintro e w2 ⟨rfl, hb2⟩)
      all_goals go_wp2
      all_goals go_roundw
      all_goals first
        | exact ⟨k + 1, by omega, by go_num, Gr.tr (below_drewN hgr0 1) hb2⟩
        | (simp [intOf]; omega)
    · go_wp2
      go_ret
      exact ⟨rfl, hgr⟩
end Go.Proofs.YthjegibkbpafeaaDoor
