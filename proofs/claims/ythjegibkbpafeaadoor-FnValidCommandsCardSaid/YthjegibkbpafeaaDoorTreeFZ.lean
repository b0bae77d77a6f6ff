/-
  Walks over files and trees: where a file lies.
-/
import Derived.Test.YthjegibkbpafeaaDoorZ6
namespace Go.Proofs.YthjegibkbpafeaaDoor
open Go Go.RowKit Imp
set_option linter.unusedVariables false

theorem ret_i {a b : Int} (h : a = b) : Ending.returned (.int .i64 a) = .returned (.int .i64 b) := by rw [h]
theorem sfileAt_any {lo hi : Nat} (v : Value) (L : List FR) (f : FR) (w : World) (hv0 : SlR w lo hi 6 eF v L) (hhi : hi ≤ w.heap.size) :
    Calls Tryd.prog 44 #[.agg #[v], vF f] w fun e w' => e = .returned (.int .i64 (ix (fun r : FR => sameP r.1 f.1) L)) ∧ Gr w w' := by
  obtain ⟨a, c, rfl, h1, h2, h3⟩ := hv0
  unfold maxLen at h2
  obtain ⟨R, hR⟩ : ∃ R, R = ix (fun r : FR => sameP r.1 f.1) L := ⟨_, rfl⟩
  rw [← hR]
  have HR := Lib.hid hR
  clear hR
  go_enter Tryd.func44, Tryd.ntmps44
  go_wp2
  go_loopw [5] (fun i wr => ∃ k : Nat, k ≤ L.length ∧ i = .int .i64 k ∧ (L.take k).any (fun r : FR => sameP r.1 f.1) = false ∧ Gr ((w.alloc (.cells #[.slice a L.length c] 29)).alloc (.cells #[.int .i64 f.1.root, .string f.1.pkg, .string f.1.name, .bool f.1.init, .int .i64 f.1.stamp, f.2] 40)) wr) (fun i _ => L.length - (intOf i).toNat)
  case atStart => exact ⟨0, Nat.zero_le _, rfl, by simp, Gr.rfl' _⟩
  case round =>
    obtain ⟨k, hk, rfl, hall, hgr⟩ := hrel
    have H := Lib.hid hall
    clear hall
    have hgs := hgr.size
    simp at hgs
    have t0 := hgr.cell (p := ⟨w.heap.size, 0, none⟩) (by simp <;> omega)
    have g0 := hgr.cell (p := ⟨w.heap.size + 1, 0, none⟩) (by simp <;> omega)
    have g1 := hgr.cell (p := ⟨w.heap.size + 1, 1, none⟩) (by simp <;> omega)
    have g2 := hgr.cell (p := ⟨w.heap.size + 1, 2, none⟩) (by simp <;> omega)
    have g3 := hgr.cell (p := ⟨w.heap.size + 1, 3, none⟩) (by simp <;> omega)
    have g4 := hgr.cell (p := ⟨w.heap.size + 1, 4, none⟩) (by simp <;> omega)
    have g5 := hgr.cell (p := ⟨w.heap.size + 1, 5, none⟩) (by simp <;> omega)
    have hgw : Gr w wr := Gr.tr (gr_al2 w _ _) hgr
    by_cases hlt : k < L.length
    · obtain ⟨b, o, rfl, hbb, hc⟩ := h3 k hlt
      obtain ⟨x, hx⟩ : ∃ x, x = L[k] := ⟨_, rfl⟩
      obtain ⟨c0, c1, c2, c3, c4, c5⟩ := cells_fil (w := wr) (b := b) (o := o) (k := k) (x := x) (fun j u hu => (hgw.cell (p := ⟨b, o + k * 6 + j, none⟩) (Nat.lt_of_lt_of_le hbb.2 hhi)).trans (hc j u (by rw [← hx]; exact hu)))
      have hsm := fun n => ssame_any x f (wr.drewN n)
      obtain ⟨S, hS⟩ : ∃ S, S = sameP x.1 f.1 := ⟨_, rfl⟩
      rw [← hS] at hsm
      have HS := Lib.hid hS
      have HSM := Lib.hid hsm
      have HX := Lib.hid hx
      clear hc h3 hx hS hsm
      cases S
      · go_wp2
        go_region_law (go_simp
                       go_at_call 58
                       refine (HSM.out 1).mono ?_
                       rintro e w2 ⟨rfl, hb2⟩)
        all_goals go_wp2
        all_goals go_roundw
        all_goals first
          | exact ⟨k + 1, by omega, by go_num, by rw [any_take_succ _ _ _ hlt, H.out, ← HX.out, ← HS.out]; rfl, Gr.tr (below_drewN hgr 1) hb2⟩
          | (simp [intOf]; omega)
      · go_wp2
        go_region_law (go_simp
                       go_at_call 58
                       refine (HSM.out 1).mono ?_
                       rintro e w2 ⟨rfl, hb2⟩)
        all_goals go_wp2
        all_goals go_ret
        all_goals exact ⟨ret_i (by rw [HR.out]; exact (ix_hit hlt H.out (by rw [← HX.out]; exact HS.out.symm)).symm), Gr.tr (below_drewN hgw 1) hb2⟩
    · go_wp2
      go_ret
      exact ⟨ret_i (by rw [HR.out]; exact (ix_none (by rw [← List.take_of_length_le (show L.length ≤ k by omega)]; exact H.out)).symm), hgw⟩
end Go.Proofs.YthjegibkbpafeaaDoor
