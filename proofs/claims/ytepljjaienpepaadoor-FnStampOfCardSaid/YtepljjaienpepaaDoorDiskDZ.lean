/-
  Walks: directories of disks stamped. Printed by diskd.py.
-/
import Derived.Test.YtepljjaienpepaaDoorZ8
namespace Go.Proofs.YtepljjaienpepaaDoor
open Go Go.RowKit Imp
set_option linter.unusedVariables false
set_option linter.unusedSimpArgs false
def DStp (w : World) (base : Nat) (ta : Option Addr) (tn tc : Nat) (clock : Int) (dv : Value) (L : List DR) (e : Ending) (w' : World) : Prop :=
  ∃ u, ∃ M : List DR, e = .returned (vDk (.slice ta tn tc) clock u) ∧ OwnD w' base 34 9 u M ∧ M.length ≤ L.length + 4 ∧ (∀ r ∈ M, r.1.pkg.size ≤ 11) ∧ w.grownBy w' dv.ownBlock
set_option maxHeartbeats 12800000 in
set_option maxRecDepth 10000 in
theorem sstamped_own {base : Nat} (ta : Option Addr) (tn tc : Nat) (clock : Int) (dv : Value) (D : List DR) (root : Int) (p : ByteArray) (w : World) (hd : OwnD w base 34 9 dv D) (hbase : base ≤ w.heap.size) (hl : D.length ≤ 100) (hsm : ∀ r ∈ D, r.1.pkg.size ≤ 11) (hp : vPkg (bs p) = true) :
    Calls Tryd.prog 63 #[vDk (.slice ta tn tc) clock dv, .int .i64 root, .string p] w (DStp w base ta tn tc clock dv D) := by
  obtain ⟨da, dc, rfl, _, _⟩ := hd.1.form
  have hg3 : Gr w (((w.alloc (.cells #[.slice ta tn tc, .int .i64 clock, .slice da D.length dc] 28)).alloc (.cells #[.slice none 0 0, .int .i64 0, .slice none 0 0] 28)).alloc (.cells #[.string ⟨#[]⟩] 9)) := gr_alloc3 w _ _ _
  have hz0 : (((w.alloc (.cells #[.slice ta tn tc, .int .i64 clock, .slice da D.length dc] 28)).alloc (.cells #[.slice none 0 0, .int .i64 0, .slice none 0 0] 28)).alloc (.cells #[.string ⟨#[]⟩] 9)).heap[w.heap.size]? = some (.cells #[.slice ta tn tc, .int .i64 clock, .slice da D.length dc] 28) := ((gr_al ((w.alloc (.cells #[.slice ta tn tc, .int .i64 clock, .slice da D.length dc] 28)).alloc (.cells #[.slice none 0 0, .int .i64 0, .slice none 0 0] 28)) (.cells #[.string ⟨#[]⟩] 9)).block w.heap.size (by simp <;> omega)).trans ((Below.heap_alloc (w.alloc (.cells #[.slice ta tn tc, .int .i64 clock, .slice da D.length dc] 28)) (.cells #[.slice none 0 0, .int .i64 0, .slice none 0 0] 28) w.heap.size (by simp)).trans (heap_alloc_new w (.cells #[.slice ta tn tc, .int .i64 clock, .slice da D.length dc] 28)))
  have hz1 : (((w.alloc (.cells #[.slice ta tn tc, .int .i64 clock, .slice da D.length dc] 28)).alloc (.cells #[.slice none 0 0, .int .i64 0, .slice none 0 0] 28)).alloc (.cells #[.string ⟨#[]⟩] 9)).heap[w.heap.size + 1]? = some (.cells #[.slice none 0 0, .int .i64 0, .slice none 0 0] 28) := heap_alloc3_mid w _ _ _
  have hol : Own (((w.alloc (.cells #[.slice ta tn tc, .int .i64 clock, .slice da D.length dc] 28)).alloc (.cells #[.slice none 0 0, .int .i64 0, .slice none 0 0] 28)).alloc (.cells #[.string ⟨#[]⟩] 9)) (w.heap.size + 1 + 1) 9 1 eL (.slice (some ⟨w.heap.size + 1 + 1, 0, none⟩) 1 1) [[]] := by
    have := Own.one1 (enc := eL) (k := 1) ((w.alloc (.cells #[.slice ta tn tc, .int .i64 clock, .slice da D.length dc] 28)).alloc (.cells #[.slice none 0 0, .int .i64 0, .slice none 0 0] 28)) (w.heap.size + 1 + 1) [] 9 (by simp) rfl
    rw [show ((w.alloc (.cells #[.slice ta tn tc, .int .i64 clock, .slice da D.length dc] 28)).alloc (.cells #[.slice none 0 0, .int .i64 0, .slice none 0 0] 28)).heap.size = w.heap.size + 1 + 1 by simp] at this
    exact this
  have hobd := hd.block
  have HD0 := Lib.hid hd
  have HSM := Lib.hid hsm
  by_cases he : (bs p).isEmpty = true
  · have h1 : p.toList.isEmpty = true := by rw [isEmpty_toList]; exact he
    obtain ⟨W5, hW5⟩ : ∃ W5, W5 = (((w.alloc (.cells #[.slice ta tn tc, .int .i64 clock, .slice da D.length dc] 28)).alloc (.cells #[.slice none 0 0, .int .i64 0, .slice none 0 0] 28)).alloc (.cells #[.string ⟨#[]⟩] 9)) := ⟨_, rfl⟩
    have hg5 : Gr w W5 := by rw [hW5]; exact hg3
    have hs5' : w.heap.size + 3 ≤ W5.heap.size := by rw [hW5]; simp
    rw [← hW5] at hz0 hz1 hol
    have HB0 := Lib.hid hz0
    have HB1 := Lib.hid hz1
    have HOD := Lib.hid (OwnN.gr HD0.out hg5)
    have HL := Lib.hid (hol.reads (fun _ _ => rfl))
    have HNL := Lib.hid (show (([[]] : List (List UInt8))).length = 1 from rfl)
    have HLS := Lib.hid (show ∀ l ∈ ([[]] : List (List UInt8)), l.length ≤ 11 from (fun l hl => by rw [List.mem_singleton] at hl; subst hl; exact Nat.zero_le _))
    have hs50 : w.heap.size + 3 ≤ W5.heap.size := hs5'
    have HW5 := Lib.hid hW5
    clear hz0 hz1 hol hW5 hsm hd he
    go_enter Tryd.func63, Tryd.ntmps63
    go_wp2
    rw [← HW5.out]
    clear HW5 h1
    go_loopw [8] (fun i wr => ∃ k : Nat, k ≤ 1 ∧ i = .int .i64 k ∧ ∃ u, ∃ M : List DR, wr.heap[w.heap.size]? = some (.cells #[.slice ta tn tc, .int .i64 clock, u] 28) ∧ OwnD wr base 34 9 u M ∧ (∀ b, ownsN u M b → b < w.heap.size ∨ W5.heap.size ≤ b) ∧ (∀ b, u.ownBlock = some b → Value.ownBlock (.slice da D.length dc) = some b ∨ W5.heap.size ≤ b) ∧ M.length ≤ D.length + k ∧ (∀ r ∈ M, r.1.pkg.size ≤ 11) ∧ ChgN (fun b => b = w.heap.size ∨ Value.ownBlock (.slice da D.length dc) = some b) W5 wr) (fun i _ => 1 - (intOf i).toNat)
    case atStart => exact ⟨0, Nat.zero_le _, rfl, _, D, HB0.out, HOD.out, (fun b hb => Or.inl (hobd b hb).2), (fun b hb => Or.inl hb), Nat.le_refl _, HSM.out, ChgN.refl _ _⟩
    case round =>
      obtain ⟨k, hk, rfl, u, M, hz0, hown, hap, hap2, hml, hms, hch⟩ := hrel
      obtain ⟨ua, uc, rfl, _, _⟩ := hown.1.form
      have hs5 := hch.size
      have hLS : Same (w.heap.size + 1 + 1) W5.heap.size W5 wr := fun b h1 h2 => hch.block b h2 (fun q => q.elim (fun q => by omega) (fun q => by have := (hobd b (Or.inl q)).2; omega))
      obtain ⟨⟨x0, x1, x2⟩, f0, f1, f2⟩ := rows3 hz0
      have HMS := Lib.hid hms
      have HO := Lib.hid hown
      have HZ0 := Lib.hid hz0
      have HAP := Lib.hid hap
      have HAP2 := Lib.hid hap2
      have hl0 := lt_of_block hz0
      have hobm := hown.block
      clear hms hown hz0 hap hap2
      by_cases hlt : k < 1
      · have hkL : k < (([[]] : List (List UInt8))).length := by have := HNL.out; omega
        have hkw : IntKind.i64.wrap ((k : Int) + 1) = (k : Int) + 1 := IntWalk.i64_in _ (by omega)
        have hki : (k : Int) < (1 : Int) := by omega
        obtain ⟨bl, ol, hbl, hbl1, hbl2, cl⟩ := slr_cellL (HL.out.keep hLS) hkL
        obtain ⟨q, hq⟩ : ∃ q, q = mk (([[]] : List (List UInt8)))[k] := ⟨_, rfl⟩
        have hqs : q.size ≤ 11 := by rw [hq, mk_size]; exact HLS.out _ (List.getElem_mem hkL)
        rw [← hq] at cl
        injection hbl with hbl
        injection hbl with e1 e2
        subst e1; subst e2
        rw [Nat.zero_add] at cl
        have hcs : ∀ W, Gr wr W → Gr wr W ∧ (W.cell? ⟨w.heap.size, 0, none⟩ = some (.slice ta tn tc) ∧ W.cell? ⟨w.heap.size, 1, none⟩ = some (.int .i64 clock) ∧ W.cell? ⟨w.heap.size, 2, none⟩ = some (.slice ua M.length uc)) ∧ W.cell? ⟨w.heap.size + 1 + 1, k, none⟩ = some (.string q) := fun W h => ⟨h, (rows3 ((h.block _ hl0).trans HZ0.out)).1, (h.cell (p := ⟨w.heap.size + 1 + 1, k, none⟩) (by show w.heap.size + 1 + 1 < wr.heap.size; omega)).trans cl⟩
        have hda := fun W (h : Gr wr W) => sdirAt_any (.slice ua M.length uc) M root q W (OwnD.reads (OwnN.gr HO.out h)).1 (Nat.le_refl _)
        obtain ⟨K, hK⟩ : ∃ K, ix (fun r : DR => samD root q r.1) M = K := ⟨_, rfl⟩
        simp only [hK] at hda
        have HK := Lib.hid hK
        have HDA := Lib.hid hda
        have HCS := Lib.hid hcs
        have HCH := Lib.hid hch
        clear hq hK hda hcs x0 x1 x2 f0 f1 f2 cl hLS
        go_wp2
        refine wp_region_held_drew (S := (fun W => Gr wr W ∧ (W.cell? ⟨w.heap.size, 0, none⟩ = some (.slice ta tn tc) ∧ W.cell? ⟨w.heap.size, 1, none⟩ = some (.int .i64 clock) ∧ W.cell? ⟨w.heap.size, 2, none⟩ = some (.slice ua M.length uc)) ∧ W.cell? ⟨w.heap.size + 1 + 1, k, none⟩ = some (.string q))) (by kernel_rfl) (HCS.out _ (below_drewN (Gr.rfl' _) 1)) (fun hS0 => ?_)
        refine wpAnyH_take (i := 0) (v := ?_) rfl (by kernel_rfl) (by kernel_rfl) (by kernel_rfl) (fun _ _ _ h => h) (Or.inl ⟨by rfl, ?_⟩) hS0 ?_
        rotate_left
        · (intro W hSw; (try dsimp only at hSw); go_simp; try (with_reducible rfl))
        try simp only [Act.put, List.getElem_toArray, List.getElem_cons_succ, List.getElem_cons_zero, List.setIfInBounds_toArray, List.set_cons_zero, List.set_cons_succ]
        refine wpAnyH_take (i := 1) (v := ?_) rfl (by kernel_rfl) (by kernel_rfl) (by kernel_rfl) (fun _ _ _ h => h) (Or.inl ⟨by rfl, ?_⟩) hS0 ?_
        rotate_left
        · (intro W hSw; (try dsimp only at hSw); go_simp; try (with_reducible rfl))
        try simp only [Act.put, List.getElem_toArray, List.getElem_cons_succ, List.getElem_cons_zero, List.setIfInBounds_toArray, List.set_cons_zero, List.set_cons_succ]
        refine wpAnyH_take (i := 2) (v := ?_) rfl (by kernel_rfl) (by kernel_rfl) (by kernel_rfl) (fun _ _ _ h => h) (Or.inl ⟨by rfl, ?_⟩) hS0 ?_
        rotate_left
        · (intro W hSw; (try dsimp only at hSw); go_simp; try (with_reducible rfl))
        try simp only [Act.put, List.getElem_toArray, List.getElem_cons_succ, List.getElem_cons_zero, List.setIfInBounds_toArray, List.set_cons_zero, List.set_cons_succ]
        refine wpAnyH_take (i := 3) (v := ?_) rfl (by kernel_rfl) (by kernel_rfl) (by kernel_rfl) (fun _ _ _ h => h) (Or.inl ⟨by rfl, ?_⟩) hS0 ?_
        rotate_left
        · (intro W hSw; (try dsimp only at hSw); go_simp; try (with_reducible rfl))
        try simp only [Act.put, List.getElem_toArray, List.getElem_cons_succ, List.getElem_cons_zero, List.setIfInBounds_toArray, List.set_cons_zero, List.set_cons_succ]
        refine wpAnyH_take (i := 4) (v := ?_) rfl (by kernel_rfl) (by kernel_rfl) (by kernel_rfl) (fun _ _ _ h => h) (Or.inl ⟨by rfl, ?_⟩) hS0 ?_
        rotate_left
        · (intro W hSw; (try dsimp only at hSw); go_simp; try (with_reducible rfl))
        try simp only [Act.put, List.getElem_toArray, List.getElem_cons_succ, List.getElem_cons_zero, List.setIfInBounds_toArray, List.set_cons_zero, List.set_cons_succ]
        refine wpAnyH_take (i := 5) (v := ?_) rfl (by kernel_rfl) (by kernel_rfl) (by kernel_rfl) (fun _ _ _ h => h) (Or.inl ⟨by rfl, ?_⟩) hS0 ?_
        rotate_left
        · (intro W hSw; (try dsimp only at hSw); go_simp; try (with_reducible rfl))
        try simp only [Act.put, List.getElem_toArray, List.getElem_cons_succ, List.getElem_cons_zero, List.setIfInBounds_toArray, List.set_cons_zero, List.set_cons_succ]
        refine wpAnyH_take (i := 6) (v := ?_) rfl (by kernel_rfl) (by kernel_rfl) (by kernel_rfl) (fun _ _ _ h => h) (Or.inl ⟨by rfl, ?_⟩) hS0 ?_
        rotate_left
        · (intro W hSw; (try dsimp only at hSw); go_simp; try (with_reducible rfl))
        try simp only [Act.put, List.getElem_toArray, List.getElem_cons_succ, List.getElem_cons_zero, List.setIfInBounds_toArray, List.set_cons_zero, List.set_cons_succ]
        refine wpAnyH_ready (rs := [7]) (by kernel_rfl) (by simp) ?_
        refine AllReadyH.cons rfl (fun K hK => ?_) AllReadyH.nil
        go_simp
        refine (HDA.out _ hS0.1).mono ?_
        rintro e w7 ⟨rfl, hb7⟩
        try go_wp2_with fail
        refine hK.out _ _ (HCS.out _ (hS0.1.tr hb7)) (fun hS1 => ?_)
        clear hK K
        try simp only [Act.put, List.getElem_toArray, List.getElem_cons_succ, List.getElem_cons_zero, List.setIfInBounds_toArray, List.set_cons_zero, List.set_cons_succ]
        refine wpAnyH_take (i := 8) (v := ?_) rfl (by kernel_rfl) (by kernel_rfl) (by kernel_rfl) (fun _ _ _ h => h) (Or.inl ⟨by rfl, ?_⟩) hS1 ?_
        rotate_left
        · (intro W hSw; (try dsimp only at hSw); go_simp; try (with_reducible rfl))
        try simp only [Act.put, List.getElem_toArray, List.getElem_cons_succ, List.getElem_cons_zero, List.setIfInBounds_toArray, List.set_cons_zero, List.set_cons_succ]
        refine wpAnyH_done (by kernel_rfl) ?_ _
        have hg7 := hS1.1
        have z7 := (hg7.block _ hl0).trans HZ0.out
        have hO7 := OwnN.gr HO.out hg7
        obtain ⟨⟨x0, x1, x2⟩, f0, f1, f2⟩ := rows3 z7
        have cl7 := hS1.2.2
        have hch7 := HCH.out.trans (ChgN.of_gr (p := (fun b => b = w.heap.size ∨ Value.ownBlock (.slice da D.length dc) = some b)) hg7)
        have hs7 := hg7.size
        have HO7 := Lib.hid hO7
        have Z7 := Lib.hid z7
        clear hO7 z7 hS0 hS1 HCS HDA HO HZ0
        rcases ix_range (fun r : DR => samD root q r.1) M with ⟨_, hr1, hr2⟩ | ⟨_, hr1⟩
        · rw [HK.out] at hr1 hr2
          obtain ⟨j, rfl⟩ : ∃ j : Nat, K = j := ⟨K.toNat, by omega⟩
          have hneg : decide ((j : Int) < 0) = false := decide_eq_false (by omega)
          have hjm : (j : Int) < (M.length : Int) := hr2
          obtain ⟨n5, hn5⟩ : ∃ n5, n5 = M.length := ⟨_, rfl⟩
          have hO7 := HO7.out
          have z7 := Z7.out
          rw [← hn5] at hO7 z7 hjm x2 ⊢
          have HN5 := Lib.hid hn5
          obtain ⟨A, x, B, hX, hAl⟩ := split_atD (show j < M.length by omega)
          have HAl := Lib.hid hAl
          have HX := Lib.hid hX
          rw [hX] at hO7
          obtain ⟨⟨xr, xp, xs, xn⟩, xv⟩ := x
          obtain ⟨b7, c7, ee, hbb7, hbl7, _, hcell, hfr⟩ := own_rowK (K := 4) (enc := eDr) (fun _ => rfl) hO7.1
          injection ee with e1 e2 e3
          subst e1
          clear e2 e3 hX hAl hn5 hr1 hr2 HK
          have c2 := hcell 2 _ rfl
          have g2 := hfr (j * 4 + 2)
          rw [HAl.out] at c2
          have hb7 := HAP.out b7 (Or.inl rfl)
          have o1 := OwnN.set (j := 2) (u := .int .i64 clock) (x' := ((⟨xr, xp, clock, xn⟩ : Dr), xv)) hO7 (fun _ => rfl) rfl (by decide) rfl rfl rfl
          rw [HAl.out] at o1
          have z9 := set_other (b' := b7) (o := j * 4 + 2) (v := .int .i64 clock) z7 (by omega)
          have hc9 := hch7.block
          have HO9 := Lib.hid o1
          have Z9 := Lib.hid z9
          clear o1 z9 z7 hO7 hcell hfr
          go_wp2
          go_roundw
          case rel =>
            have hms9 : ∀ r ∈ A ++ ((⟨xr, xp, clock, xn⟩ : Dr), xv) :: B, r.1.pkg.size ≤ 11 := fun r hr => by
              rw [List.mem_append, List.mem_cons] at hr
              rcases hr with hr | rfl | hr
              · exact HMS.out r (by rw [HX.out]; simp [hr])
              · exact HMS.out ((⟨xr, xp, xs, xn⟩ : Dr), xv) (by rw [HX.out]; simp)
              · exact HMS.out r (by rw [HX.out]; simp [hr])
            have hap9 : ∀ b, ownsN (.slice (some ⟨b7, 0, none⟩) n5 uc) (A ++ ((⟨xr, xp, clock, xn⟩ : Dr), xv) :: B) b → b < w.heap.size ∨ W5.heap.size ≤ b := fun b hb => by
              apply HAP.out b
              rcases hb with hb | ⟨r, hr, hb⟩
              · exact Or.inl hb
              · right
                rw [List.mem_append, List.mem_cons] at hr
                rcases hr with hr | rfl | hr
                · exact ⟨r, by rw [HX.out]; simp [hr], hb⟩
                · exact ⟨((⟨xr, xp, xs, xn⟩ : Dr), xv), by rw [HX.out]; simp, hb⟩
                · exact ⟨r, by rw [HX.out]; simp [hr], hb⟩
            have hch9 : ChgN (fun b => b = w.heap.size ∨ Value.ownBlock (.slice da D.length dc) = some b) W5 (w7.setCell ⟨b7, j * 4 + 2, none⟩ (.int .i64 clock)) := by
              rcases HAP2.out b7 rfl with q9 | q9
              · exact hch7.trans (ChgN.set w7 b7 (j * 4 + 2) _ (Or.inr q9))
              · exact ⟨hch7.os, hch7.tape, hch7.output, by have := hch7.size; simpa [World.setCell] using this, fun b h1 h2 => (Below.heap_setCell _ _ _ b (by show b ≠ b7; omega)).trans (hch7.block b h1 h2)⟩
            refine ⟨k + 1, by omega, by go_num, _, A ++ ((⟨xr, xp, clock, xn⟩ : Dr), xv) :: B, Z9.out, HO9.out, hap9, HAP2.out, ?_, hms9, hch9⟩
            have h8 := congrArg List.length HX.out
            simp only [List.length_append, List.length_cons] at h8 ⊢
            omega
          case measure => simp [intOf]; omega
        · rw [HK.out] at hr1
          have hneg : decide (K < 0) = true := decide_eq_true (by omega)
          have gA := gr_al (w7.drewN 1) (.cells #[.int .i64 root, .string q, .int .i64 clock, .slice none 0 0] 34)
          have zA : ((w7.drewN 1).alloc (.cells #[.int .i64 root, .string q, .int .i64 clock, .slice none 0 0] 34)).heap[w.heap.size]? = some (.cells #[.slice ta tn tc, .int .i64 clock, .slice ua M.length uc] 28) := (gA.block _ (lt_of_block Z7.out)).trans Z7.out
          have a2 : (w7.alloc (.cells #[.int .i64 root, .string q, .int .i64 clock, .slice none 0 0] 34)).cell? ⟨w.heap.size, 2, none⟩ = some (.slice ua M.length uc) := (rows3 zA).1.2.2
          have a2d : (w7.alloc (.cells #[.int .i64 root, .string q, .int .i64 clock, .slice none 0 0] 34)).drew.cell? ⟨w.heap.size, 2, none⟩ = some (.slice ua M.length uc) := (rows3 zA).1.2.2
          have clA : ((w7.drewN 1).alloc (.cells #[.int .i64 root, .string q, .int .i64 clock, .slice none 0 0] 34)).cell? ⟨w.heap.size + 1 + 1, k, none⟩ = some (.string q) := (gA.cell (p := ⟨w.heap.size + 1 + 1, k, none⟩) (by show w.heap.size + 1 + 1 < w7.heap.size; omega)).trans cl7
          have hownA : OwnD ((w7.drewN 1).alloc (.cells #[.int .i64 root, .string q, .int .i64 clock, .slice none 0 0] 34)) base 34 9 (.slice ua M.length uc) M := (OwnN.gr HO7.out (below_drewN (Gr.rfl' _) 1)).gr gA
          have hsrc := SlR.oneAt (w7.drewN 1) 0 w7.heap.size ((⟨root, q, clock, []⟩ : Dr), (.slice none 0 0 : Value)) 34 (enc := eDr) (k := 4) rfl (Nat.zero_le _) rfl
          have sA : ((w7.drewN 1).alloc (.cells #[.int .i64 root, .string q, .int .i64 clock, .slice none 0 0] 34)).cell? ⟨w.heap.size, 1, none⟩ = some (.int .i64 clock) := (rows3 zA).1.2.1
          have HZA := Lib.hid zA
          have HOA := Lib.hid hownA
          have hchA := hch7.trans (ChgN.of_gr (p := (fun b => b = w.heap.size ∨ Value.ownBlock (.slice da D.length dc) = some b)) ((show Gr w7 (w7.drewN 1) from below_drewN (Gr.rfl' w7) 1).tr gA))
          clear hr1 hownA zA HK
          go_wp2
          refine wp_region_held_drew (S := (fun W => W.cell? ⟨w.heap.size, 1, none⟩ = some (.int .i64 clock) ∧ W.cell? ⟨w.heap.size + 1 + 1, k, none⟩ = some (.string q))) (by kernel_rfl) ⟨x1, cl7⟩ (fun hS0 => ?_)
          refine wpAnyH_take (i := 0) (v := ?_) rfl (by kernel_rfl) (by kernel_rfl) (by kernel_rfl) (fun _ _ _ h => h) (Or.inl ⟨by rfl, ?_⟩) hS0 ?_
          rotate_left
          · (intro W hSw; (try dsimp only at hSw); go_simp; try (with_reducible rfl))
          try simp only [Act.put, List.getElem_toArray, List.getElem_cons_succ, List.getElem_cons_zero, List.setIfInBounds_toArray, List.set_cons_zero, List.set_cons_succ]
          refine wpAnyH_take (i := 2) (v := ?_) rfl (by kernel_rfl) (by kernel_rfl) (by kernel_rfl) (fun _ _ _ h => h) (Or.inl ⟨by rfl, ?_⟩) hS0 ?_
          rotate_left
          · (intro W hSw; (try dsimp only at hSw); go_simp; try (with_reducible rfl))
          try simp only [Act.put, List.getElem_toArray, List.getElem_cons_succ, List.getElem_cons_zero, List.setIfInBounds_toArray, List.set_cons_zero, List.set_cons_succ]
          refine wpAnyH_take (i := 3) (v := ?_) rfl (by kernel_rfl) (by kernel_rfl) (by kernel_rfl) (fun _ _ _ h => h) (Or.inl ⟨by rfl, ?_⟩) hS0 ?_
          rotate_left
          · (intro W hSw; (try dsimp only at hSw); go_simp; try (with_reducible rfl))
          try simp only [Act.put, List.getElem_toArray, List.getElem_cons_succ, List.getElem_cons_zero, List.setIfInBounds_toArray, List.set_cons_zero, List.set_cons_succ]
          refine wpAnyH_take (i := 4) (v := ?_) rfl (by kernel_rfl) (by kernel_rfl) (by kernel_rfl) (fun _ _ _ h => h) (Or.inl ⟨by rfl, ?_⟩) hS0 ?_
          rotate_left
          · (intro W hSw; (try dsimp only at hSw); go_simp; try (with_reducible rfl))
          try simp only [Act.put, List.getElem_toArray, List.getElem_cons_succ, List.getElem_cons_zero, List.setIfInBounds_toArray, List.set_cons_zero, List.set_cons_succ]
          refine wpAnyH_take (i := 5) (v := ?_) rfl (by kernel_rfl) (by kernel_rfl) (by kernel_rfl) (fun _ _ _ h => h) (Or.inl ⟨by rfl, ?_⟩) hS0 ?_
          rotate_left
          · (intro W hSw; (try dsimp only at hSw); go_simp; try (with_reducible rfl))
          try simp only [Act.put, List.getElem_toArray, List.getElem_cons_succ, List.getElem_cons_zero, List.setIfInBounds_toArray, List.set_cons_zero, List.set_cons_succ]
          refine wpAnyH_take (i := 6) (v := ?_) rfl (by kernel_rfl) (by kernel_rfl) (by kernel_rfl) (fun _ _ _ h => h) (Or.inl ⟨by rfl, ?_⟩) hS0 ?_
          rotate_left
          · (intro W hSw; (try dsimp only at hSw); go_simp; try (with_reducible rfl))
          try simp only [Act.put, List.getElem_toArray, List.getElem_cons_succ, List.getElem_cons_zero, List.setIfInBounds_toArray, List.set_cons_zero, List.set_cons_succ]
          refine wpAnyH_take (i := 7) (v := ?_) rfl (by kernel_rfl) (by kernel_rfl) (by kernel_rfl) (fun _ _ _ h => h) (Or.inl ⟨by rfl, ?_⟩) hS0 ?_
          rotate_left
          · (intro W hSw; (try dsimp only at hSw); go_simp; try (with_reducible rfl))
          try simp only [Act.put, List.getElem_toArray, List.getElem_cons_succ, List.getElem_cons_zero, List.setIfInBounds_toArray, List.set_cons_zero, List.set_cons_succ]
          refine wpAnyH_take (i := 8) (v := ?_) rfl (by kernel_rfl) (by kernel_rfl) (by kernel_rfl) (fun _ _ _ h => h) (Or.inl ⟨by rfl, ?_⟩) hS0 ?_
          rotate_left
          · (intro W hSw; (try dsimp only at hSw); go_simp; try (with_reducible rfl))
          try simp only [Act.put, List.getElem_toArray, List.getElem_cons_succ, List.getElem_cons_zero, List.setIfInBounds_toArray, List.set_cons_zero, List.set_cons_succ]
          refine wpAnyH_take (i := 9) (v := ?_) rfl (by kernel_rfl) (by kernel_rfl) (by kernel_rfl) (fun _ _ _ h => h) (Or.inl ⟨by rfl, ?_⟩) hS0 ?_
          rotate_left
          · (intro W hSw; (try dsimp only at hSw); go_simp; try (with_reducible rfl))
          try simp only [Act.put, List.getElem_toArray, List.getElem_cons_succ, List.getElem_cons_zero, List.setIfInBounds_toArray, List.set_cons_zero, List.set_cons_succ]
          refine wpAnyH_ready (rs := [1, 10]) (by kernel_rfl) (by simp) ?_
          refine AllReadyH.cons rfl (fun K hK => ?_) (AllReadyH.cons rfl (fun K hK => ?_) (AllReadyH.nil))
          · skip
            go_simp
            refine hK.out _ _ ⟨x1, cl7⟩ (fun _ => ?_)
            clear hK K
            try simp only [Act.put, List.getElem_toArray, List.getElem_cons_succ, List.getElem_cons_zero, List.setIfInBounds_toArray, List.set_cons_zero, List.set_cons_succ]
            refine wpAnyH_ready (rs := [10]) (by kernel_rfl) (by simp) ?_
            refine AllReadyH.cons rfl (fun K hK => ?_) (AllReadyH.nil)
            go_simp
            refine hK.out _ _ ⟨sA, clA⟩ (fun _ => ?_)
            clear hK K
            try simp only [Act.put, List.getElem_toArray, List.getElem_cons_succ, List.getElem_cons_zero, List.setIfInBounds_toArray, List.set_cons_zero, List.set_cons_succ]
            refine wpAnyH_ready (rs := [11]) (by kernel_rfl) (by simp) ?_
            refine AllReadyH.cons rfl (fun K hK => ?_) (AllReadyH.nil)
            refine step_app _ rfl (.tmp 34) (.tmp 43) ti_dirD rfl (by simp [Act.eval]) HOA.out.1 (by simp [Act.eval]) hsrc (fun _ _ => rfl) (by simp [eDr, Value.oneCell']) (by unfold maxLen; simp; omega) (by simp; omega) (by simp; omega) ?_
            intro v9 w9 hown9 hg9 hat9
            obtain ⟨va9, vc9, hv9, _, _⟩ := hown9.form
            have hv9' : v9 = .slice va9 (M.length + 1) vc9 := by rw [hv9, List.length_append]; rfl
            clear hv9
            subst hv9'
            have z9 := (hg9.block w.heap.size (lt_of_block HZA.out) (by intro y; rcases HAP.out w.heap.size (Or.inl y.symm) with y | y <;> omega)).trans HZA.out
            obtain ⟨⟨y0, y1, y2⟩, m0, m1, m2⟩ := rows3 z9
            have cl9 : w9.cell? ⟨w.heap.size + 1 + 1, k, none⟩ = some (.string q) := (World.cell?_of_block (hg9.block _ (by show w.heap.size + 1 + 1 < ((w7.drewN 1).alloc (.cells #[.int .i64 root, .string q, .int .i64 clock, .slice none 0 0] 34)).heap.size; simp; omega) (by intro y; have y2 : Value.ownBlock (.slice ua M.length uc) = some (w.heap.size + 1 + 1) := y.symm; rcases HAP.out _ (Or.inl y2) with z | z <;> omega))).trans clA
            have hs9 := hg9.size
            have o9 := OwnN.app (x := ((⟨root, q, clock, []⟩ : Dr), (.slice none 0 0 : Value))) HOA.out (Own.nil _ base 9 1 eS) (fun b hb => by cases hb) hown9 hg9 hat9
            have z10 : (w9.setCell ⟨w.heap.size, 2, none⟩ (.slice va9 (M.length + 1) vc9)).heap[w.heap.size]? = some (.cells #[.slice ta tn tc, .int .i64 clock, .slice va9 (M.length + 1) vc9] 28 (0, 0)) := heap_setCell_same _ w.heap.size 2 _ _ _ z9
            have hap9 : ∀ b, ownsN (.slice va9 (M.length + 1) vc9) (M ++ [((⟨root, q, clock, []⟩ : Dr), (.slice none 0 0 : Value))]) b → b < w.heap.size ∨ W5.heap.size ≤ b := fun b hb => by
              rcases hb with hb | ⟨r, hr, hb⟩
              · rcases hat9 with y | y
                · rw [y] at hb; exact HAP.out b (Or.inl hb)
                · rw [y] at hb; injection hb with hb; right; have hb2 : ((w7.drewN 1).alloc (.cells #[.int .i64 root, .string q, .int .i64 clock, .slice none 0 0] 34)).heap.size = b := hb; rw [World.size_alloc] at hb2; have hb3 : w7.heap.size + 1 = b := hb2; omega
              · rw [List.mem_append, List.mem_singleton] at hr
                rcases hr with hr | rfl
                · exact HAP.out b (Or.inr ⟨r, hr, hb⟩)
                · cases hb
            have hap29 : ∀ b, Value.ownBlock (.slice va9 (M.length + 1) vc9) = some b → Value.ownBlock (.slice da D.length dc) = some b ∨ W5.heap.size ≤ b := fun b hb => by
              rcases hat9 with y | y
              · rw [y] at hb; exact HAP2.out b hb
              · rw [y] at hb; injection hb with hb; right; have hb2 : ((w7.drewN 1).alloc (.cells #[.int .i64 root, .string q, .int .i64 clock, .slice none 0 0] 34)).heap.size = b := hb; rw [World.size_alloc] at hb2; have hb3 : w7.heap.size + 1 = b := hb2; omega
            have o10 := o9.chg (p := fun b => b = w.heap.size) (ChgN.set w9 w.heap.size 2 (.slice va9 (M.length + 1) vc9) rfl) (fun b hb y => by rcases hap9 b hb with z | z <;> omega)
            have hch9 : ChgN (fun b => b = w.heap.size ∨ Value.ownBlock (.slice da D.length dc) = some b) W5 w9 := ⟨hg9.os.trans hchA.os, hg9.tape.trans hchA.tape, hg9.output.trans hchA.output, Nat.le_trans hchA.size hg9.size, fun b h1 h2 => (hg9.block b (Nat.lt_of_lt_of_le h1 hchA.size) (fun y => (HAP2.out b y.symm).elim (fun z => h2 (Or.inr z)) (fun z => by omega))).trans (hchA.block b h1 h2)⟩
            have hch10 := hch9.trans (ChgN.set w9 w.heap.size 2 (.slice va9 (M.length + 1) vc9) (p := (fun b => b = w.heap.size ∨ Value.ownBlock (.slice da D.length dc) = some b)) (Or.inl rfl))
            have S10 : (w9.setCell ⟨w.heap.size, 2, none⟩ (.slice va9 (M.length + 1) vc9)).cell? ⟨w.heap.size, 1, none⟩ = some (.int .i64 clock) := (rows3 z10).1.2.1
            have C10 : (w9.setCell ⟨w.heap.size, 2, none⟩ (.slice va9 (M.length + 1) vc9)).cell? ⟨w.heap.size + 1 + 1, k, none⟩ = some (.string q) := (World.cell?_of_block (Below.heap_setCell _ _ _ _ (by show w.heap.size + 1 + 1 ≠ w.heap.size; omega))).trans cl9
            have HO10 := Lib.hid o10
            have Z10 := Lib.hid z10
            have HS10 := Lib.hid S10
            have HC10 := Lib.hid C10
            clear o9 o10 z9 z10 hown9 S10 C10
            refine hK.out _ _ ⟨y1, cl9⟩ (fun hS9 => ?_)
            clear hK K
            try simp only [Act.put, List.getElem_toArray, List.getElem_cons_succ, List.getElem_cons_zero, List.setIfInBounds_toArray, List.set_cons_zero, List.set_cons_succ]
            refine wpAnyH_take (i := 12) (v := ?_) rfl (by kernel_rfl) (by kernel_rfl) (by kernel_rfl) (fun _ _ _ h => h) (Or.inl ⟨by rfl, ?_⟩) hS9 ?_
            rotate_left
            · (intro W hSw; (try dsimp only at hSw); go_simp; try (with_reducible rfl))
            try simp only [Act.put, List.getElem_toArray, List.getElem_cons_succ, List.getElem_cons_zero, List.setIfInBounds_toArray, List.set_cons_zero, List.set_cons_succ]
            refine wpAnyH_ready (rs := [13]) (by kernel_rfl) (by simp) ?_
            refine AllReadyH.cons rfl (fun K hK => ?_) (AllReadyH.nil)
            go_simp
            refine hK.out _ _ ⟨HS10.out, HC10.out⟩ (fun _ => ?_)
            clear hK K
            try simp only [Act.put, List.getElem_toArray, List.getElem_cons_succ, List.getElem_cons_zero, List.setIfInBounds_toArray, List.set_cons_zero, List.set_cons_succ]
            refine wpAnyH_done (by kernel_rfl) ?_ _
            go_wp2
            go_roundw
            case rel =>
              refine ⟨k + 1, by omega, by go_num, _, M ++ [((⟨root, q, clock, []⟩ : Dr), (.slice none 0 0 : Value))], Z10.out, HO10.out, hap9, hap29, by simp; omega, fun r hr => ?_, hch10⟩
              rw [List.mem_append, List.mem_singleton] at hr
              rcases hr with hr | rfl
              · exact HMS.out r hr
              · exact hqs
            case measure => simp [intOf]; omega
          · skip
            go_simp
            refine hK.out _ _ ⟨sA, clA⟩ (fun _ => ?_)
            clear hK K
            try simp only [Act.put, List.getElem_toArray, List.getElem_cons_succ, List.getElem_cons_zero, List.setIfInBounds_toArray, List.set_cons_zero, List.set_cons_succ]
            refine wpAnyH_ready (rs := [1]) (by kernel_rfl) (by simp) ?_
            refine AllReadyH.cons rfl (fun K hK => ?_) (AllReadyH.nil)
            go_simp
            refine hK.out _ _ ⟨sA, clA⟩ (fun _ => ?_)
            clear hK K
            try simp only [Act.put, List.getElem_toArray, List.getElem_cons_succ, List.getElem_cons_zero, List.setIfInBounds_toArray, List.set_cons_zero, List.set_cons_succ]
            refine wpAnyH_ready (rs := [11]) (by kernel_rfl) (by simp) ?_
            refine AllReadyH.cons rfl (fun K hK => ?_) (AllReadyH.nil)
            refine step_app _ rfl (.tmp 34) (.tmp 43) ti_dirD rfl (by simp [Act.eval]) HOA.out.1 (by simp [Act.eval]) hsrc (fun _ _ => rfl) (by simp [eDr, Value.oneCell']) (by unfold maxLen; simp; omega) (by simp; omega) (by simp; omega) ?_
            intro v9 w9 hown9 hg9 hat9
            obtain ⟨va9, vc9, hv9, _, _⟩ := hown9.form
            have hv9' : v9 = .slice va9 (M.length + 1) vc9 := by rw [hv9, List.length_append]; rfl
            clear hv9
            subst hv9'
            have z9 := (hg9.block w.heap.size (lt_of_block HZA.out) (by intro y; rcases HAP.out w.heap.size (Or.inl y.symm) with y | y <;> omega)).trans HZA.out
            obtain ⟨⟨y0, y1, y2⟩, m0, m1, m2⟩ := rows3 z9
            have cl9 : w9.cell? ⟨w.heap.size + 1 + 1, k, none⟩ = some (.string q) := (World.cell?_of_block (hg9.block _ (by show w.heap.size + 1 + 1 < ((w7.drewN 1).alloc (.cells #[.int .i64 root, .string q, .int .i64 clock, .slice none 0 0] 34)).heap.size; simp; omega) (by intro y; have y2 : Value.ownBlock (.slice ua M.length uc) = some (w.heap.size + 1 + 1) := y.symm; rcases HAP.out _ (Or.inl y2) with z | z <;> omega))).trans clA
            have hs9 := hg9.size
            have o9 := OwnN.app (x := ((⟨root, q, clock, []⟩ : Dr), (.slice none 0 0 : Value))) HOA.out (Own.nil _ base 9 1 eS) (fun b hb => by cases hb) hown9 hg9 hat9
            have z10 : (w9.setCell ⟨w.heap.size, 2, none⟩ (.slice va9 (M.length + 1) vc9)).heap[w.heap.size]? = some (.cells #[.slice ta tn tc, .int .i64 clock, .slice va9 (M.length + 1) vc9] 28 (0, 0)) := heap_setCell_same _ w.heap.size 2 _ _ _ z9
            have hap9 : ∀ b, ownsN (.slice va9 (M.length + 1) vc9) (M ++ [((⟨root, q, clock, []⟩ : Dr), (.slice none 0 0 : Value))]) b → b < w.heap.size ∨ W5.heap.size ≤ b := fun b hb => by
              rcases hb with hb | ⟨r, hr, hb⟩
              · rcases hat9 with y | y
                · rw [y] at hb; exact HAP.out b (Or.inl hb)
                · rw [y] at hb; injection hb with hb; right; have hb2 : ((w7.drewN 1).alloc (.cells #[.int .i64 root, .string q, .int .i64 clock, .slice none 0 0] 34)).heap.size = b := hb; rw [World.size_alloc] at hb2; have hb3 : w7.heap.size + 1 = b := hb2; omega
              · rw [List.mem_append, List.mem_singleton] at hr
                rcases hr with hr | rfl
                · exact HAP.out b (Or.inr ⟨r, hr, hb⟩)
                · cases hb
            have hap29 : ∀ b, Value.ownBlock (.slice va9 (M.length + 1) vc9) = some b → Value.ownBlock (.slice da D.length dc) = some b ∨ W5.heap.size ≤ b := fun b hb => by
              rcases hat9 with y | y
              · rw [y] at hb; exact HAP2.out b hb
              · rw [y] at hb; injection hb with hb; right; have hb2 : ((w7.drewN 1).alloc (.cells #[.int .i64 root, .string q, .int .i64 clock, .slice none 0 0] 34)).heap.size = b := hb; rw [World.size_alloc] at hb2; have hb3 : w7.heap.size + 1 = b := hb2; omega
            have o10 := o9.chg (p := fun b => b = w.heap.size) (ChgN.set w9 w.heap.size 2 (.slice va9 (M.length + 1) vc9) rfl) (fun b hb y => by rcases hap9 b hb with z | z <;> omega)
            have hch9 : ChgN (fun b => b = w.heap.size ∨ Value.ownBlock (.slice da D.length dc) = some b) W5 w9 := ⟨hg9.os.trans hchA.os, hg9.tape.trans hchA.tape, hg9.output.trans hchA.output, Nat.le_trans hchA.size hg9.size, fun b h1 h2 => (hg9.block b (Nat.lt_of_lt_of_le h1 hchA.size) (fun y => (HAP2.out b y.symm).elim (fun z => h2 (Or.inr z)) (fun z => by omega))).trans (hchA.block b h1 h2)⟩
            have hch10 := hch9.trans (ChgN.set w9 w.heap.size 2 (.slice va9 (M.length + 1) vc9) (p := (fun b => b = w.heap.size ∨ Value.ownBlock (.slice da D.length dc) = some b)) (Or.inl rfl))
            have S10 : (w9.setCell ⟨w.heap.size, 2, none⟩ (.slice va9 (M.length + 1) vc9)).cell? ⟨w.heap.size, 1, none⟩ = some (.int .i64 clock) := (rows3 z10).1.2.1
            have C10 : (w9.setCell ⟨w.heap.size, 2, none⟩ (.slice va9 (M.length + 1) vc9)).cell? ⟨w.heap.size + 1 + 1, k, none⟩ = some (.string q) := (World.cell?_of_block (Below.heap_setCell _ _ _ _ (by show w.heap.size + 1 + 1 ≠ w.heap.size; omega))).trans cl9
            have HO10 := Lib.hid o10
            have Z10 := Lib.hid z10
            have HS10 := Lib.hid S10
            have HC10 := Lib.hid C10
            clear o9 o10 z9 z10 hown9 S10 C10
            refine hK.out _ _ ⟨y1, cl9⟩ (fun hS9 => ?_)
            clear hK K
            try simp only [Act.put, List.getElem_toArray, List.getElem_cons_succ, List.getElem_cons_zero, List.setIfInBounds_toArray, List.set_cons_zero, List.set_cons_succ]
            refine wpAnyH_take (i := 12) (v := ?_) rfl (by kernel_rfl) (by kernel_rfl) (by kernel_rfl) (fun _ _ _ h => h) (Or.inl ⟨by rfl, ?_⟩) hS9 ?_
            rotate_left
            · (intro W hSw; (try dsimp only at hSw); go_simp; try (with_reducible rfl))
            try simp only [Act.put, List.getElem_toArray, List.getElem_cons_succ, List.getElem_cons_zero, List.setIfInBounds_toArray, List.set_cons_zero, List.set_cons_succ]
            refine wpAnyH_ready (rs := [13]) (by kernel_rfl) (by simp) ?_
            refine AllReadyH.cons rfl (fun K hK => ?_) (AllReadyH.nil)
            go_simp
            refine hK.out _ _ ⟨HS10.out, HC10.out⟩ (fun _ => ?_)
            clear hK K
            try simp only [Act.put, List.getElem_toArray, List.getElem_cons_succ, List.getElem_cons_zero, List.setIfInBounds_toArray, List.set_cons_zero, List.set_cons_succ]
            refine wpAnyH_done (by kernel_rfl) ?_ _
            go_wp2
            go_roundw
            case rel =>
              refine ⟨k + 1, by omega, by go_num, _, M ++ [((⟨root, q, clock, []⟩ : Dr), (.slice none 0 0 : Value))], Z10.out, HO10.out, hap9, hap29, by simp; omega, fun r hr => ?_, hch10⟩
              rw [List.mem_append, List.mem_singleton] at hr
              rcases hr with hr | rfl
              · exact HMS.out r hr
              · exact hqs
            case measure => simp [intOf]; omega
      · have hki : decide ((k : Int) < (1 : Int)) = false := decide_eq_false (by omega)
        have zz : wr.heap[w.heap.size + 1]? = some (.cells #[.slice none 0 0, .int .i64 0, .slice none 0 0] 28) := (hch.block _ (by omega) (fun y => y.elim (fun y => by omega) (fun y => by have := (hobd _ (Or.inl y)).2; omega))).trans HB1.out
        obtain ⟨_, t0, t1, t2⟩ := rows3 zz
        obtain ⟨⟨u0, u1, u2⟩, _⟩ := rows3 zz
        have hput := put3 zz (.slice ta tn tc) (.int .i64 clock) (.slice ua M.length uc)
        have HPUT := Lib.hid hput
        have HCH := Lib.hid hch
        clear zz hput hch
        go_wp2
        refine bodyPost_ret (results_cell_row rfl _ _ (w.heap.size + 1) 28 _ (0, 0) _ rfl HPUT.out.1 Tryd.underlying28 rfl (by kernel_rfl)) rfl ?_
        refine ⟨_, M, rfl, HO.out.chg (p := fun b => b = w.heap.size + 1) (ChgN.of_grown HPUT.out.2 (fun b hb => by injection hb with hb; exact hb.symm)) (fun b hb y => by rcases HAP.out b hb with z | z <;> omega), by omega, HMS.out, ?_⟩
        have c := HCH.out
        have g := HPUT.out.2
        exact ⟨g.os.trans (c.os.trans hg5.os), g.tape.trans (c.tape.trans hg5.tape), g.output.trans (c.output.trans hg5.output), Nat.le_trans hg5.size (Nat.le_trans c.size g.size), fun b h1 h2 => (g.block b (by omega) (by intro y; injection y with y; omega)).trans ((c.block b (by omega) (fun y => y.elim (fun y => by omega) (fun y => h2 y.symm))).trans (hg5.block b h1))⟩
  · have he' : (bs p).isEmpty = false := (Bool.not_eq_true _).mp he
    have h1 : p.toList.isEmpty = false := by rw [isEmpty_toList]; exact he'
    have hn : vName (bs p) = true := by
      unfold vPkg at hp
      rw [he', Bool.false_or] at hp
      exact hp
    have hab := sabove_any p (((w.alloc (.cells #[.slice ta tn tc, .int .i64 clock, .slice da D.length dc] 28)).alloc (.cells #[.slice none 0 0, .int .i64 0, .slice none 0 0] 28)).alloc (.cells #[.string ⟨#[]⟩] 9)) hn
    obtain ⟨AB, hAB⟩ : ∃ AB, AB = aboveP (bs p) := ⟨_, rfl⟩
    rw [← hAB] at hab
    have hABl : AB.length ≤ 3 := by rw [hAB, aboveP_length]; exact (vName_parts hn).1
    have hABs : ∀ l ∈ AB, l.length ≤ 11 := fun l hl => vName_length (above_name hn l (by rw [← hAB]; exact hl))
    have HAB := Lib.hid hab
    have hz0b := hz0
    have hz1b := hz1
    have HZ0 := Lib.hid hz0
    have HZ1 := Lib.hid hz1
    have HOL := Lib.hid hol
    have hW3s : (((w.alloc (.cells #[.slice ta tn tc, .int .i64 clock, .slice da D.length dc] 28)).alloc (.cells #[.slice none 0 0, .int .i64 0, .slice none 0 0] 28)).alloc (.cells #[.string ⟨#[]⟩] 9)).heap.size = w.heap.size + 1 + 1 + 1 := by simp
    have HW3S := Lib.hid hW3s
    clear hab hz0 hz1 hz0b hz1b hol hsm hd he hAB hW3s
    go_enter Tryd.func63, Tryd.ntmps63
    go_wp2_with fail
    refine HAB.out.mono ?_
    rintro e w4 ⟨v4, rfl, ho4, hb4⟩
    obtain ⟨a4, c4, rfl, _, _⟩ := ho4.form
    have hg4 := hg3.tr hb4
    have hol4 := Own.keep HOL.out (fun b hb => hb4.block b (HOL.out.block b hb).2)
    have hs4 := hb4.size
    have hob4 := hol4.block
    go_wp2_with (at_builtin
                 refine wpList_app _ rfl (.tmp 13) (.tmp 15) ti_strs rfl rfl hol4 rfl (ho4.reads (fun _ _ => rfl)) (fun _ _ => rfl) (by intro x _ u hu; rw [show eL x = [.string (mk x)] from rfl, List.mem_singleton] at hu; subst hu; rfl) (by unfold maxLen; simp; omega) (by simp; omega) (by have := HW3S.out; omega) ?_
                 intro v5 W5 hown5 hg55 hat5
                 obtain ⟨la, lc, hv5, _, _⟩ := hown5.form
                 obtain ⟨nL, hnL⟩ : ∃ nL, ([[]] ++ AB : List (List UInt8)).length = nL := ⟨_, rfl⟩
                 rw [hnL] at hv5
                 subst hv5
                 have hnl4 : nL ≤ 4 := by rw [← hnL]; simp; omega
                 have hblk : ∀ b, b < w.heap.size + 1 + 1 → W5.heap[b]? = w4.heap[b]? := fun b hb => hg55.block b (by have := HW3S.out; omega) (by intro y; have := (hob4 b y.symm).1; omega)
                 have hg5 : Gr w W5 := hg4.grown hg55 hg4.size (fun b hb => by have := (hob4 b hb).1; omega)
                 have hs5' : w.heap.size + 3 ≤ W5.heap.size := by have := HW3S.out; have := hg55.size; omega
                 have HB0 := Lib.hid ((hblk _ (by omega)).trans ((hb4.block _ (lt_of_block HZ0.out)).trans HZ0.out))
                 have HB1 := Lib.hid ((hblk _ (by omega)).trans ((hb4.block _ (lt_of_block HZ1.out)).trans HZ1.out))
                 have HOD := Lib.hid (OwnN.gr HD0.out hg5)
                 have HL := Lib.hid (hown5.reads (fun _ _ => rfl))
                 have HNL := Lib.hid (show (([[]] ++ AB : List (List UInt8))).length = nL from hnL)
                 have HLS := Lib.hid (show ∀ l ∈ ([[]] ++ AB : List (List UInt8)), l.length ≤ 11 from (fun l hl => (List.mem_append.1 hl).elim (fun q => by rw [List.mem_singleton] at q; subst q; exact Nat.zero_le _) (fun q => hABs l q)))
                 have hs50 : w.heap.size + 3 ≤ W5.heap.size := hs5'
                 clear hnL hown5 hol4 ho4 hblk)
    clear h1
    go_loopw [8] (fun i wr => ∃ k : Nat, k ≤ nL ∧ i = .int .i64 k ∧ ∃ u, ∃ M : List DR, wr.heap[w.heap.size]? = some (.cells #[.slice ta tn tc, .int .i64 clock, u] 28) ∧ OwnD wr base 34 9 u M ∧ (∀ b, ownsN u M b → b < w.heap.size ∨ W5.heap.size ≤ b) ∧ (∀ b, u.ownBlock = some b → Value.ownBlock (.slice da D.length dc) = some b ∨ W5.heap.size ≤ b) ∧ M.length ≤ D.length + k ∧ (∀ r ∈ M, r.1.pkg.size ≤ 11) ∧ ChgN (fun b => b = w.heap.size ∨ Value.ownBlock (.slice da D.length dc) = some b) W5 wr) (fun i _ => nL - (intOf i).toNat)
    case atStart => exact ⟨0, Nat.zero_le _, rfl, _, D, HB0.out, HOD.out, (fun b hb => Or.inl (hobd b hb).2), (fun b hb => Or.inl hb), Nat.le_refl _, HSM.out, ChgN.refl _ _⟩
    case round =>
      obtain ⟨k, hk, rfl, u, M, hz0, hown, hap, hap2, hml, hms, hch⟩ := hrel
      obtain ⟨ua, uc, rfl, _, _⟩ := hown.1.form
      have hs5 := hch.size
      have hLS : Same (w.heap.size + 1 + 1) W5.heap.size W5 wr := fun b h1 h2 => hch.block b h2 (fun q => q.elim (fun q => by omega) (fun q => by have := (hobd b (Or.inl q)).2; omega))
      obtain ⟨⟨x0, x1, x2⟩, f0, f1, f2⟩ := rows3 hz0
      have HMS := Lib.hid hms
      have HO := Lib.hid hown
      have HZ0 := Lib.hid hz0
      have HAP := Lib.hid hap
      have HAP2 := Lib.hid hap2
      have hl0 := lt_of_block hz0
      have hobm := hown.block
      clear hms hown hz0 hap hap2
      by_cases hlt : k < nL
      · have hkL : k < (([[]] ++ AB : List (List UInt8))).length := by have := HNL.out; omega
        have hkw : IntKind.i64.wrap ((k : Int) + 1) = (k : Int) + 1 := IntWalk.i64_in _ (by omega)
        have hki : (k : Int) < (nL : Int) := by omega
        obtain ⟨bl, ol, hbl, hbl1, hbl2, cl⟩ := slr_cellL (HL.out.keep hLS) hkL
        obtain ⟨q, hq⟩ : ∃ q, q = mk (([[]] ++ AB : List (List UInt8)))[k] := ⟨_, rfl⟩
        have hqs : q.size ≤ 11 := by rw [hq, mk_size]; exact HLS.out _ (List.getElem_mem hkL)
        rw [← hq] at cl
        subst hbl
        have hcs : ∀ W, Gr wr W → Gr wr W ∧ (W.cell? ⟨w.heap.size, 0, none⟩ = some (.slice ta tn tc) ∧ W.cell? ⟨w.heap.size, 1, none⟩ = some (.int .i64 clock) ∧ W.cell? ⟨w.heap.size, 2, none⟩ = some (.slice ua M.length uc)) ∧ W.cell? ⟨bl, ol + k, none⟩ = some (.string q) := fun W h => ⟨h, (rows3 ((h.block _ hl0).trans HZ0.out)).1, (h.cell (p := ⟨bl, ol + k, none⟩) (by show bl < wr.heap.size; omega)).trans cl⟩
        have hda := fun W (h : Gr wr W) => sdirAt_any (.slice ua M.length uc) M root q W (OwnD.reads (OwnN.gr HO.out h)).1 (Nat.le_refl _)
        obtain ⟨K, hK⟩ : ∃ K, ix (fun r : DR => samD root q r.1) M = K := ⟨_, rfl⟩
        simp only [hK] at hda
        have HK := Lib.hid hK
        have HDA := Lib.hid hda
        have HCS := Lib.hid hcs
        have HCH := Lib.hid hch
        clear hq hK hda hcs x0 x1 x2 f0 f1 f2 cl hLS
        go_wp2
        refine wp_region_held_drew (S := (fun W => Gr wr W ∧ (W.cell? ⟨w.heap.size, 0, none⟩ = some (.slice ta tn tc) ∧ W.cell? ⟨w.heap.size, 1, none⟩ = some (.int .i64 clock) ∧ W.cell? ⟨w.heap.size, 2, none⟩ = some (.slice ua M.length uc)) ∧ W.cell? ⟨bl, ol + k, none⟩ = some (.string q))) (by kernel_rfl) (HCS.out _ (below_drewN (Gr.rfl' _) 1)) (fun hS0 => ?_)
        refine wpAnyH_take (i := 0) (v := ?_) rfl (by kernel_rfl) (by kernel_rfl) (by kernel_rfl) (fun _ _ _ h => h) (Or.inl ⟨by rfl, ?_⟩) hS0 ?_
        rotate_left
        · (intro W hSw; (try dsimp only at hSw); go_simp; try (with_reducible rfl))
        try simp only [Act.put, List.getElem_toArray, List.getElem_cons_succ, List.getElem_cons_zero, List.setIfInBounds_toArray, List.set_cons_zero, List.set_cons_succ]
        refine wpAnyH_take (i := 1) (v := ?_) rfl (by kernel_rfl) (by kernel_rfl) (by kernel_rfl) (fun _ _ _ h => h) (Or.inl ⟨by rfl, ?_⟩) hS0 ?_
        rotate_left
        · (intro W hSw; (try dsimp only at hSw); go_simp; try (with_reducible rfl))
        try simp only [Act.put, List.getElem_toArray, List.getElem_cons_succ, List.getElem_cons_zero, List.setIfInBounds_toArray, List.set_cons_zero, List.set_cons_succ]
        refine wpAnyH_take (i := 2) (v := ?_) rfl (by kernel_rfl) (by kernel_rfl) (by kernel_rfl) (fun _ _ _ h => h) (Or.inl ⟨by rfl, ?_⟩) hS0 ?_
        rotate_left
        · (intro W hSw; (try dsimp only at hSw); go_simp; try (with_reducible rfl))
        try simp only [Act.put, List.getElem_toArray, List.getElem_cons_succ, List.getElem_cons_zero, List.setIfInBounds_toArray, List.set_cons_zero, List.set_cons_succ]
        refine wpAnyH_take (i := 3) (v := ?_) rfl (by kernel_rfl) (by kernel_rfl) (by kernel_rfl) (fun _ _ _ h => h) (Or.inl ⟨by rfl, ?_⟩) hS0 ?_
        rotate_left
        · (intro W hSw; (try dsimp only at hSw); go_simp; try (with_reducible rfl))
        try simp only [Act.put, List.getElem_toArray, List.getElem_cons_succ, List.getElem_cons_zero, List.setIfInBounds_toArray, List.set_cons_zero, List.set_cons_succ]
        refine wpAnyH_take (i := 4) (v := ?_) rfl (by kernel_rfl) (by kernel_rfl) (by kernel_rfl) (fun _ _ _ h => h) (Or.inl ⟨by rfl, ?_⟩) hS0 ?_
        rotate_left
        · (intro W hSw; (try dsimp only at hSw); go_simp; try (with_reducible rfl))
        try simp only [Act.put, List.getElem_toArray, List.getElem_cons_succ, List.getElem_cons_zero, List.setIfInBounds_toArray, List.set_cons_zero, List.set_cons_succ]
        refine wpAnyH_take (i := 5) (v := ?_) rfl (by kernel_rfl) (by kernel_rfl) (by kernel_rfl) (fun _ _ _ h => h) (Or.inl ⟨by rfl, ?_⟩) hS0 ?_
        rotate_left
        · (intro W hSw; (try dsimp only at hSw); go_simp; try (with_reducible rfl))
        try simp only [Act.put, List.getElem_toArray, List.getElem_cons_succ, List.getElem_cons_zero, List.setIfInBounds_toArray, List.set_cons_zero, List.set_cons_succ]
        refine wpAnyH_take (i := 6) (v := ?_) rfl (by kernel_rfl) (by kernel_rfl) (by kernel_rfl) (fun _ _ _ h => h) (Or.inl ⟨by rfl, ?_⟩) hS0 ?_
        rotate_left
        · (intro W hSw; (try dsimp only at hSw); go_simp; try (with_reducible rfl))
        try simp only [Act.put, List.getElem_toArray, List.getElem_cons_succ, List.getElem_cons_zero, List.setIfInBounds_toArray, List.set_cons_zero, List.set_cons_succ]
        refine wpAnyH_ready (rs := [7]) (by kernel_rfl) (by simp) ?_
        refine AllReadyH.cons rfl (fun K hK => ?_) AllReadyH.nil
        go_simp
        refine (HDA.out _ hS0.1).mono ?_
        rintro e w7 ⟨rfl, hb7⟩
        try go_wp2_with fail
        refine hK.out _ _ (HCS.out _ (hS0.1.tr hb7)) (fun hS1 => ?_)
        clear hK K
        try simp only [Act.put, List.getElem_toArray, List.getElem_cons_succ, List.getElem_cons_zero, List.setIfInBounds_toArray, List.set_cons_zero, List.set_cons_succ]
        refine wpAnyH_take (i := 8) (v := ?_) rfl (by kernel_rfl) (by kernel_rfl) (by kernel_rfl) (fun _ _ _ h => h) (Or.inl ⟨by rfl, ?_⟩) hS1 ?_
        rotate_left
        · (intro W hSw; (try dsimp only at hSw); go_simp; try (with_reducible rfl))
        try simp only [Act.put, List.getElem_toArray, List.getElem_cons_succ, List.getElem_cons_zero, List.setIfInBounds_toArray, List.set_cons_zero, List.set_cons_succ]
        refine wpAnyH_done (by kernel_rfl) ?_ _
        have hg7 := hS1.1
        have z7 := (hg7.block _ hl0).trans HZ0.out
        have hO7 := OwnN.gr HO.out hg7
        obtain ⟨⟨x0, x1, x2⟩, f0, f1, f2⟩ := rows3 z7
        have cl7 := hS1.2.2
        have hch7 := HCH.out.trans (ChgN.of_gr (p := (fun b => b = w.heap.size ∨ Value.ownBlock (.slice da D.length dc) = some b)) hg7)
        have hs7 := hg7.size
        have HO7 := Lib.hid hO7
        have Z7 := Lib.hid z7
        clear hO7 z7 hS0 hS1 HCS HDA HO HZ0
        rcases ix_range (fun r : DR => samD root q r.1) M with ⟨_, hr1, hr2⟩ | ⟨_, hr1⟩
        · rw [HK.out] at hr1 hr2
          obtain ⟨j, rfl⟩ : ∃ j : Nat, K = j := ⟨K.toNat, by omega⟩
          have hneg : decide ((j : Int) < 0) = false := decide_eq_false (by omega)
          have hjm : (j : Int) < (M.length : Int) := hr2
          obtain ⟨n5, hn5⟩ : ∃ n5, n5 = M.length := ⟨_, rfl⟩
          have hO7 := HO7.out
          have z7 := Z7.out
          rw [← hn5] at hO7 z7 hjm x2 ⊢
          have HN5 := Lib.hid hn5
          obtain ⟨A, x, B, hX, hAl⟩ := split_atD (show j < M.length by omega)
          have HAl := Lib.hid hAl
          have HX := Lib.hid hX
          rw [hX] at hO7
          obtain ⟨⟨xr, xp, xs, xn⟩, xv⟩ := x
          obtain ⟨b7, c7, ee, hbb7, hbl7, _, hcell, hfr⟩ := own_rowK (K := 4) (enc := eDr) (fun _ => rfl) hO7.1
          injection ee with e1 e2 e3
          subst e1
          clear e2 e3 hX hAl hn5 hr1 hr2 HK
          have c2 := hcell 2 _ rfl
          have g2 := hfr (j * 4 + 2)
          rw [HAl.out] at c2
          have hb7 := HAP.out b7 (Or.inl rfl)
          have o1 := OwnN.set (j := 2) (u := .int .i64 clock) (x' := ((⟨xr, xp, clock, xn⟩ : Dr), xv)) hO7 (fun _ => rfl) rfl (by decide) rfl rfl rfl
          rw [HAl.out] at o1
          have z9 := set_other (b' := b7) (o := j * 4 + 2) (v := .int .i64 clock) z7 (by omega)
          have hc9 := hch7.block
          have HO9 := Lib.hid o1
          have Z9 := Lib.hid z9
          clear o1 z9 z7 hO7 hcell hfr
          go_wp2
          go_roundw
          case rel =>
            have hms9 : ∀ r ∈ A ++ ((⟨xr, xp, clock, xn⟩ : Dr), xv) :: B, r.1.pkg.size ≤ 11 := fun r hr => by
              rw [List.mem_append, List.mem_cons] at hr
              rcases hr with hr | rfl | hr
              · exact HMS.out r (by rw [HX.out]; simp [hr])
              · exact HMS.out ((⟨xr, xp, xs, xn⟩ : Dr), xv) (by rw [HX.out]; simp)
              · exact HMS.out r (by rw [HX.out]; simp [hr])
            have hap9 : ∀ b, ownsN (.slice (some ⟨b7, 0, none⟩) n5 uc) (A ++ ((⟨xr, xp, clock, xn⟩ : Dr), xv) :: B) b → b < w.heap.size ∨ W5.heap.size ≤ b := fun b hb => by
              apply HAP.out b
              rcases hb with hb | ⟨r, hr, hb⟩
              · exact Or.inl hb
              · right
                rw [List.mem_append, List.mem_cons] at hr
                rcases hr with hr | rfl | hr
                · exact ⟨r, by rw [HX.out]; simp [hr], hb⟩
                · exact ⟨((⟨xr, xp, xs, xn⟩ : Dr), xv), by rw [HX.out]; simp, hb⟩
                · exact ⟨r, by rw [HX.out]; simp [hr], hb⟩
            have hch9 : ChgN (fun b => b = w.heap.size ∨ Value.ownBlock (.slice da D.length dc) = some b) W5 (w7.setCell ⟨b7, j * 4 + 2, none⟩ (.int .i64 clock)) := by
              rcases HAP2.out b7 rfl with q9 | q9
              · exact hch7.trans (ChgN.set w7 b7 (j * 4 + 2) _ (Or.inr q9))
              · exact ⟨hch7.os, hch7.tape, hch7.output, by have := hch7.size; simpa [World.setCell] using this, fun b h1 h2 => (Below.heap_setCell _ _ _ b (by show b ≠ b7; omega)).trans (hch7.block b h1 h2)⟩
            refine ⟨k + 1, by omega, by go_num, _, A ++ ((⟨xr, xp, clock, xn⟩ : Dr), xv) :: B, Z9.out, HO9.out, hap9, HAP2.out, ?_, hms9, hch9⟩
            have h8 := congrArg List.length HX.out
            simp only [List.length_append, List.length_cons] at h8 ⊢
            omega
          case measure => simp [intOf]; omega
        · rw [HK.out] at hr1
          have hneg : decide (K < 0) = true := decide_eq_true (by omega)
          have gA := gr_al (w7.drewN 1) (.cells #[.int .i64 root, .string q, .int .i64 clock, .slice none 0 0] 34)
          have zA : ((w7.drewN 1).alloc (.cells #[.int .i64 root, .string q, .int .i64 clock, .slice none 0 0] 34)).heap[w.heap.size]? = some (.cells #[.slice ta tn tc, .int .i64 clock, .slice ua M.length uc] 28) := (gA.block _ (lt_of_block Z7.out)).trans Z7.out
          have a2 : (w7.alloc (.cells #[.int .i64 root, .string q, .int .i64 clock, .slice none 0 0] 34)).cell? ⟨w.heap.size, 2, none⟩ = some (.slice ua M.length uc) := (rows3 zA).1.2.2
          have a2d : (w7.alloc (.cells #[.int .i64 root, .string q, .int .i64 clock, .slice none 0 0] 34)).drew.cell? ⟨w.heap.size, 2, none⟩ = some (.slice ua M.length uc) := (rows3 zA).1.2.2
          have clA : ((w7.drewN 1).alloc (.cells #[.int .i64 root, .string q, .int .i64 clock, .slice none 0 0] 34)).cell? ⟨bl, ol + k, none⟩ = some (.string q) := (gA.cell (p := ⟨bl, ol + k, none⟩) (by show bl < w7.heap.size; omega)).trans cl7
          have hownA : OwnD ((w7.drewN 1).alloc (.cells #[.int .i64 root, .string q, .int .i64 clock, .slice none 0 0] 34)) base 34 9 (.slice ua M.length uc) M := (OwnN.gr HO7.out (below_drewN (Gr.rfl' _) 1)).gr gA
          have hsrc := SlR.oneAt (w7.drewN 1) 0 w7.heap.size ((⟨root, q, clock, []⟩ : Dr), (.slice none 0 0 : Value)) 34 (enc := eDr) (k := 4) rfl (Nat.zero_le _) rfl
          have sA : ((w7.drewN 1).alloc (.cells #[.int .i64 root, .string q, .int .i64 clock, .slice none 0 0] 34)).cell? ⟨w.heap.size, 1, none⟩ = some (.int .i64 clock) := (rows3 zA).1.2.1
          have HZA := Lib.hid zA
          have HOA := Lib.hid hownA
          have hchA := hch7.trans (ChgN.of_gr (p := (fun b => b = w.heap.size ∨ Value.ownBlock (.slice da D.length dc) = some b)) ((show Gr w7 (w7.drewN 1) from below_drewN (Gr.rfl' w7) 1).tr gA))
          clear hr1 hownA zA HK
          go_wp2
          refine wp_region_held_drew (S := (fun W => W.cell? ⟨w.heap.size, 1, none⟩ = some (.int .i64 clock) ∧ W.cell? ⟨bl, ol + k, none⟩ = some (.string q))) (by kernel_rfl) ⟨x1, cl7⟩ (fun hS0 => ?_)
          refine wpAnyH_take (i := 0) (v := ?_) rfl (by kernel_rfl) (by kernel_rfl) (by kernel_rfl) (fun _ _ _ h => h) (Or.inl ⟨by rfl, ?_⟩) hS0 ?_
          rotate_left
          · (intro W hSw; (try dsimp only at hSw); go_simp; try (with_reducible rfl))
          try simp only [Act.put, List.getElem_toArray, List.getElem_cons_succ, List.getElem_cons_zero, List.setIfInBounds_toArray, List.set_cons_zero, List.set_cons_succ]
          refine wpAnyH_take (i := 2) (v := ?_) rfl (by kernel_rfl) (by kernel_rfl) (by kernel_rfl) (fun _ _ _ h => h) (Or.inl ⟨by rfl, ?_⟩) hS0 ?_
          rotate_left
          · (intro W hSw; (try dsimp only at hSw); go_simp; try (with_reducible rfl))
          try simp only [Act.put, List.getElem_toArray, List.getElem_cons_succ, List.getElem_cons_zero, List.setIfInBounds_toArray, List.set_cons_zero, List.set_cons_succ]
          refine wpAnyH_take (i := 3) (v := ?_) rfl (by kernel_rfl) (by kernel_rfl) (by kernel_rfl) (fun _ _ _ h => h) (Or.inl ⟨by rfl, ?_⟩) hS0 ?_
          rotate_left
          · (intro W hSw; (try dsimp only at hSw); go_simp; try (with_reducible rfl))
          try simp only [Act.put, List.getElem_toArray, List.getElem_cons_succ, List.getElem_cons_zero, List.setIfInBounds_toArray, List.set_cons_zero, List.set_cons_succ]
          refine wpAnyH_take (i := 4) (v := ?_) rfl (by kernel_rfl) (by kernel_rfl) (by kernel_rfl) (fun _ _ _ h => h) (Or.inl ⟨by rfl, ?_⟩) hS0 ?_
          rotate_left
          · (intro W hSw; (try dsimp only at hSw); go_simp; try (with_reducible rfl))
          try simp only [Act.put, List.getElem_toArray, List.getElem_cons_succ, List.getElem_cons_zero, List.setIfInBounds_toArray, List.set_cons_zero, List.set_cons_succ]
          refine wpAnyH_take (i := 5) (v := ?_) rfl (by kernel_rfl) (by kernel_rfl) (by kernel_rfl) (fun _ _ _ h => h) (Or.inl ⟨by rfl, ?_⟩) hS0 ?_
          rotate_left
          · (intro W hSw; (try dsimp only at hSw); go_simp; try (with_reducible rfl))
          try simp only [Act.put, List.getElem_toArray, List.getElem_cons_succ, List.getElem_cons_zero, List.setIfInBounds_toArray, List.set_cons_zero, List.set_cons_succ]
          refine wpAnyH_take (i := 6) (v := ?_) rfl (by kernel_rfl) (by kernel_rfl) (by kernel_rfl) (fun _ _ _ h => h) (Or.inl ⟨by rfl, ?_⟩) hS0 ?_
          rotate_left
          · (intro W hSw; (try dsimp only at hSw); go_simp; try (with_reducible rfl))
          try simp only [Act.put, List.getElem_toArray, List.getElem_cons_succ, List.getElem_cons_zero, List.setIfInBounds_toArray, List.set_cons_zero, List.set_cons_succ]
          refine wpAnyH_take (i := 7) (v := ?_) rfl (by kernel_rfl) (by kernel_rfl) (by kernel_rfl) (fun _ _ _ h => h) (Or.inl ⟨by rfl, ?_⟩) hS0 ?_
          rotate_left
          · (intro W hSw; (try dsimp only at hSw); go_simp; try (with_reducible rfl))
          try simp only [Act.put, List.getElem_toArray, List.getElem_cons_succ, List.getElem_cons_zero, List.setIfInBounds_toArray, List.set_cons_zero, List.set_cons_succ]
          refine wpAnyH_take (i := 8) (v := ?_) rfl (by kernel_rfl) (by kernel_rfl) (by kernel_rfl) (fun _ _ _ h => h) (Or.inl ⟨by rfl, ?_⟩) hS0 ?_
          rotate_left
          · (intro W hSw; (try dsimp only at hSw); go_simp; try (with_reducible rfl))
          try simp only [Act.put, List.getElem_toArray, List.getElem_cons_succ, List.getElem_cons_zero, List.setIfInBounds_toArray, List.set_cons_zero, List.set_cons_succ]
          refine wpAnyH_take (i := 9) (v := ?_) rfl (by kernel_rfl) (by kernel_rfl) (by kernel_rfl) (fun _ _ _ h => h) (Or.inl ⟨by rfl, ?_⟩) hS0 ?_
          rotate_left
          · (intro W hSw; (try dsimp only at hSw); go_simp; try (with_reducible rfl))
          try simp only [Act.put, List.getElem_toArray, List.getElem_cons_succ, List.getElem_cons_zero, List.setIfInBounds_toArray, List.set_cons_zero, List.set_cons_succ]
          refine wpAnyH_ready (rs := [1, 10]) (by kernel_rfl) (by simp) ?_
          refine AllReadyH.cons rfl (fun K hK => ?_) (AllReadyH.cons rfl (fun K hK => ?_) (AllReadyH.nil))
          · skip
            go_simp
            refine hK.out _ _ ⟨x1, cl7⟩ (fun _ => ?_)
            clear hK K
            try simp only [Act.put, List.getElem_toArray, List.getElem_cons_succ, List.getElem_cons_zero, List.setIfInBounds_toArray, List.set_cons_zero, List.set_cons_succ]
            refine wpAnyH_ready (rs := [10]) (by kernel_rfl) (by simp) ?_
            refine AllReadyH.cons rfl (fun K hK => ?_) (AllReadyH.nil)
            go_simp
            refine hK.out _ _ ⟨sA, clA⟩ (fun _ => ?_)
            clear hK K
            try simp only [Act.put, List.getElem_toArray, List.getElem_cons_succ, List.getElem_cons_zero, List.setIfInBounds_toArray, List.set_cons_zero, List.set_cons_succ]
            refine wpAnyH_ready (rs := [11]) (by kernel_rfl) (by simp) ?_
            refine AllReadyH.cons rfl (fun K hK => ?_) (AllReadyH.nil)
            refine step_app _ rfl (.tmp 34) (.tmp 43) ti_dirD rfl (by simp [Act.eval]) HOA.out.1 (by simp [Act.eval]) hsrc (fun _ _ => rfl) (by simp [eDr, Value.oneCell']) (by unfold maxLen; simp; omega) (by simp; omega) (by simp; omega) ?_
            intro v9 w9 hown9 hg9 hat9
            obtain ⟨va9, vc9, hv9, _, _⟩ := hown9.form
            have hv9' : v9 = .slice va9 (M.length + 1) vc9 := by rw [hv9, List.length_append]; rfl
            clear hv9
            subst hv9'
            have z9 := (hg9.block w.heap.size (lt_of_block HZA.out) (by intro y; rcases HAP.out w.heap.size (Or.inl y.symm) with y | y <;> omega)).trans HZA.out
            obtain ⟨⟨y0, y1, y2⟩, m0, m1, m2⟩ := rows3 z9
            have cl9 : w9.cell? ⟨bl, ol + k, none⟩ = some (.string q) := (World.cell?_of_block (hg9.block _ (by show bl < ((w7.drewN 1).alloc (.cells #[.int .i64 root, .string q, .int .i64 clock, .slice none 0 0] 34)).heap.size; simp; omega) (by intro y; have y2 : Value.ownBlock (.slice ua M.length uc) = some (bl) := y.symm; rcases HAP.out _ (Or.inl y2) with z | z <;> omega))).trans clA
            have hs9 := hg9.size
            have o9 := OwnN.app (x := ((⟨root, q, clock, []⟩ : Dr), (.slice none 0 0 : Value))) HOA.out (Own.nil _ base 9 1 eS) (fun b hb => by cases hb) hown9 hg9 hat9
            have z10 : (w9.setCell ⟨w.heap.size, 2, none⟩ (.slice va9 (M.length + 1) vc9)).heap[w.heap.size]? = some (.cells #[.slice ta tn tc, .int .i64 clock, .slice va9 (M.length + 1) vc9] 28 (0, 0)) := heap_setCell_same _ w.heap.size 2 _ _ _ z9
            have hap9 : ∀ b, ownsN (.slice va9 (M.length + 1) vc9) (M ++ [((⟨root, q, clock, []⟩ : Dr), (.slice none 0 0 : Value))]) b → b < w.heap.size ∨ W5.heap.size ≤ b := fun b hb => by
              rcases hb with hb | ⟨r, hr, hb⟩
              · rcases hat9 with y | y
                · rw [y] at hb; exact HAP.out b (Or.inl hb)
                · rw [y] at hb; injection hb with hb; right; have hb2 : ((w7.drewN 1).alloc (.cells #[.int .i64 root, .string q, .int .i64 clock, .slice none 0 0] 34)).heap.size = b := hb; rw [World.size_alloc] at hb2; have hb3 : w7.heap.size + 1 = b := hb2; omega
              · rw [List.mem_append, List.mem_singleton] at hr
                rcases hr with hr | rfl
                · exact HAP.out b (Or.inr ⟨r, hr, hb⟩)
                · cases hb
            have hap29 : ∀ b, Value.ownBlock (.slice va9 (M.length + 1) vc9) = some b → Value.ownBlock (.slice da D.length dc) = some b ∨ W5.heap.size ≤ b := fun b hb => by
              rcases hat9 with y | y
              · rw [y] at hb; exact HAP2.out b hb
              · rw [y] at hb; injection hb with hb; right; have hb2 : ((w7.drewN 1).alloc (.cells #[.int .i64 root, .string q, .int .i64 clock, .slice none 0 0] 34)).heap.size = b := hb; rw [World.size_alloc] at hb2; have hb3 : w7.heap.size + 1 = b := hb2; omega
            have o10 := o9.chg (p := fun b => b = w.heap.size) (ChgN.set w9 w.heap.size 2 (.slice va9 (M.length + 1) vc9) rfl) (fun b hb y => by rcases hap9 b hb with z | z <;> omega)
            have hch9 : ChgN (fun b => b = w.heap.size ∨ Value.ownBlock (.slice da D.length dc) = some b) W5 w9 := ⟨hg9.os.trans hchA.os, hg9.tape.trans hchA.tape, hg9.output.trans hchA.output, Nat.le_trans hchA.size hg9.size, fun b h1 h2 => (hg9.block b (Nat.lt_of_lt_of_le h1 hchA.size) (fun y => (HAP2.out b y.symm).elim (fun z => h2 (Or.inr z)) (fun z => by omega))).trans (hchA.block b h1 h2)⟩
            have hch10 := hch9.trans (ChgN.set w9 w.heap.size 2 (.slice va9 (M.length + 1) vc9) (p := (fun b => b = w.heap.size ∨ Value.ownBlock (.slice da D.length dc) = some b)) (Or.inl rfl))
            have S10 : (w9.setCell ⟨w.heap.size, 2, none⟩ (.slice va9 (M.length + 1) vc9)).cell? ⟨w.heap.size, 1, none⟩ = some (.int .i64 clock) := (rows3 z10).1.2.1
            have C10 : (w9.setCell ⟨w.heap.size, 2, none⟩ (.slice va9 (M.length + 1) vc9)).cell? ⟨bl, ol + k, none⟩ = some (.string q) := (World.cell?_of_block (Below.heap_setCell _ _ _ _ (by show bl ≠ w.heap.size; omega))).trans cl9
            have HO10 := Lib.hid o10
            have Z10 := Lib.hid z10
            have HS10 := Lib.hid S10
            have HC10 := Lib.hid C10
            clear o9 o10 z9 z10 hown9 S10 C10
            refine hK.out _ _ ⟨y1, cl9⟩ (fun hS9 => ?_)
            clear hK K
            try simp only [Act.put, List.getElem_toArray, List.getElem_cons_succ, List.getElem_cons_zero, List.setIfInBounds_toArray, List.set_cons_zero, List.set_cons_succ]
            refine wpAnyH_take (i := 12) (v := ?_) rfl (by kernel_rfl) (by kernel_rfl) (by kernel_rfl) (fun _ _ _ h => h) (Or.inl ⟨by rfl, ?_⟩) hS9 ?_
            rotate_left
            · (intro W hSw; (try dsimp only at hSw); go_simp; try (with_reducible rfl))
            try simp only [Act.put, List.getElem_toArray, List.getElem_cons_succ, List.getElem_cons_zero, List.setIfInBounds_toArray, List.set_cons_zero, List.set_cons_succ]
            refine wpAnyH_ready (rs := [13]) (by kernel_rfl) (by simp) ?_
            refine AllReadyH.cons rfl (fun K hK => ?_) (AllReadyH.nil)
            go_simp
            refine hK.out _ _ ⟨HS10.out, HC10.out⟩ (fun _ => ?_)
            clear hK K
            try simp only [Act.put, List.getElem_toArray, List.getElem_cons_succ, List.getElem_cons_zero, List.setIfInBounds_toArray, List.set_cons_zero, List.set_cons_succ]
            refine wpAnyH_done (by kernel_rfl) ?_ _
            go_wp2
            go_roundw
            case rel =>
              refine ⟨k + 1, by omega, by go_num, _, M ++ [((⟨root, q, clock, []⟩ : Dr), (.slice none 0 0 : Value))], Z10.out, HO10.out, hap9, hap29, by simp; omega, fun r hr => ?_, hch10⟩
              rw [List.mem_append, List.mem_singleton] at hr
              rcases hr with hr | rfl
              · exact HMS.out r hr
              · exact hqs
            case measure => simp [intOf]; omega
          · skip
            go_simp
            refine hK.out _ _ ⟨sA, clA⟩ (fun _ => ?_)
            clear hK K
            try simp only [Act.put, List.getElem_toArray, List.getElem_cons_succ, List.getElem_cons_zero, List.setIfInBounds_toArray, List.set_cons_zero, List.set_cons_succ]
            refine wpAnyH_ready (rs := [1]) (by kernel_rfl) (by simp) ?_
            refine AllReadyH.cons rfl (fun K hK => ?_) (AllReadyH.nil)
            go_simp
            refine hK.out _ _ ⟨sA, clA⟩ (fun _ => ?_)
            clear hK K
            try simp only [Act.put, List.getElem_toArray, List.getElem_cons_succ, List.getElem_cons_zero, List.setIfInBounds_toArray, List.set_cons_zero, List.set_cons_succ]
            refine wpAnyH_ready (rs := [11]) (by kernel_rfl) (by simp) ?_
            refine AllReadyH.cons rfl (fun K hK => ?_) (AllReadyH.nil)
            refine step_app _ rfl (.tmp 34) (.tmp 43) ti_dirD rfl (by simp [Act.eval]) HOA.out.1 (by simp [Act.eval]) hsrc (fun _ _ => rfl) (by simp [eDr, Value.oneCell']) (by unfold maxLen; simp; omega) (by simp; omega) (by simp; omega) ?_
            intro v9 w9 hown9 hg9 hat9
            obtain ⟨va9, vc9, hv9, _, _⟩ := hown9.form
            have hv9' : v9 = .slice va9 (M.length + 1) vc9 := by rw [hv9, List.length_append]; rfl
            clear hv9
            subst hv9'
            have z9 := (hg9.block w.heap.size (lt_of_block HZA.out) (by intro y; rcases HAP.out w.heap.size (Or.inl y.symm) with y | y <;> omega)).trans HZA.out
            obtain ⟨⟨y0, y1, y2⟩, m0, m1, m2⟩ := rows3 z9
            have cl9 : w9.cell? ⟨bl, ol + k, none⟩ = some (.string q) := (World.cell?_of_block (hg9.block _ (by show bl < ((w7.drewN 1).alloc (.cells #[.int .i64 root, .string q, .int .i64 clock, .slice none 0 0] 34)).heap.size; simp; omega) (by intro y; have y2 : Value.ownBlock (.slice ua M.length uc) = some (bl) := y.symm; rcases HAP.out _ (Or.inl y2) with z | z <;> omega))).trans clA
            have hs9 := hg9.size
            have o9 := OwnN.app (x := ((⟨root, q, clock, []⟩ : Dr), (.slice none 0 0 : Value))) HOA.out (Own.nil _ base 9 1 eS) (fun b hb => by cases hb) hown9 hg9 hat9
            have z10 : (w9.setCell ⟨w.heap.size, 2, none⟩ (.slice va9 (M.length + 1) vc9)).heap[w.heap.size]? = some (.cells #[.slice ta tn tc, .int .i64 clock, .slice va9 (M.length + 1) vc9] 28 (0, 0)) := heap_setCell_same _ w.heap.size 2 _ _ _ z9
            have hap9 : ∀ b, ownsN (.slice va9 (M.length + 1) vc9) (M ++ [((⟨root, q, clock, []⟩ : Dr), (.slice none 0 0 : Value))]) b → b < w.heap.size ∨ W5.heap.size ≤ b := fun b hb => by
              rcases hb with hb | ⟨r, hr, hb⟩
              · rcases hat9 with y | y
                · rw [y] at hb; exact HAP.out b (Or.inl hb)
                · rw [y] at hb; injection hb with hb; right; have hb2 : ((w7.drewN 1).alloc (.cells #[.int .i64 root, .string q, .int .i64 clock, .slice none 0 0] 34)).heap.size = b := hb; rw [World.size_alloc] at hb2; have hb3 : w7.heap.size + 1 = b := hb2; omega
              · rw [List.mem_append, List.mem_singleton] at hr
                rcases hr with hr | rfl
                · exact HAP.out b (Or.inr ⟨r, hr, hb⟩)
                · cases hb
            have hap29 : ∀ b, Value.ownBlock (.slice va9 (M.length + 1) vc9) = some b → Value.ownBlock (.slice da D.length dc) = some b ∨ W5.heap.size ≤ b := fun b hb => by
              rcases hat9 with y | y
              · rw [y] at hb; exact HAP2.out b hb
              · rw [y] at hb; injection hb with hb; right; have hb2 : ((w7.drewN 1).alloc (.cells #[.int .i64 root, .string q, .int .i64 clock, .slice none 0 0] 34)).heap.size = b := hb; rw [World.size_alloc] at hb2; have hb3 : w7.heap.size + 1 = b := hb2; omega
            have o10 := o9.chg (p := fun b => b = w.heap.size) (ChgN.set w9 w.heap.size 2 (.slice va9 (M.length + 1) vc9) rfl) (fun b hb y => by rcases hap9 b hb with z | z <;> omega)
            have hch9 : ChgN (fun b => b = w.heap.size ∨ Value.ownBlock (.slice da D.length dc) = some b) W5 w9 := ⟨hg9.os.trans hchA.os, hg9.tape.trans hchA.tape, hg9.output.trans hchA.output, Nat.le_trans hchA.size hg9.size, fun b h1 h2 => (hg9.block b (Nat.lt_of_lt_of_le h1 hchA.size) (fun y => (HAP2.out b y.symm).elim (fun z => h2 (Or.inr z)) (fun z => by omega))).trans (hchA.block b h1 h2)⟩
            have hch10 := hch9.trans (ChgN.set w9 w.heap.size 2 (.slice va9 (M.length + 1) vc9) (p := (fun b => b = w.heap.size ∨ Value.ownBlock (.slice da D.length dc) = some b)) (Or.inl rfl))
            have S10 : (w9.setCell ⟨w.heap.size, 2, none⟩ (.slice va9 (M.length + 1) vc9)).cell? ⟨w.heap.size, 1, none⟩ = some (.int .i64 clock) := (rows3 z10).1.2.1
            have C10 : (w9.setCell ⟨w.heap.size, 2, none⟩ (.slice va9 (M.length + 1) vc9)).cell? ⟨bl, ol + k, none⟩ = some (.string q) := (World.cell?_of_block (Below.heap_setCell _ _ _ _ (by show bl ≠ w.heap.size; omega))).trans cl9
            have HO10 := Lib.hid o10
            have Z10 := Lib.hid z10
            have HS10 := Lib.hid S10
            have HC10 := Lib.hid C10
            clear o9 o10 z9 z10 hown9 S10 C10
            refine hK.out _ _ ⟨y1, cl9⟩ (fun hS9 => ?_)
            clear hK K
            try simp only [Act.put, List.getElem_toArray, List.getElem_cons_succ, List.getElem_cons_zero, List.setIfInBounds_toArray, List.set_cons_zero, List.set_cons_succ]
            refine wpAnyH_take (i := 12) (v := ?_) rfl (by kernel_rfl) (by kernel_rfl) (by kernel_rfl) (fun _ _ _ h => h) (Or.inl ⟨by rfl, ?_⟩) hS9 ?_
            rotate_left
            · (intro W hSw; (try dsimp only at hSw); go_simp; try (with_reducible rfl))
            try simp only [Act.put, List.getElem_toArray, List.getElem_cons_succ, List.getElem_cons_zero, List.setIfInBounds_toArray, List.set_cons_zero, List.set_cons_succ]
            refine wpAnyH_ready (rs := [13]) (by kernel_rfl) (by simp) ?_
            refine AllReadyH.cons rfl (fun K hK => ?_) (AllReadyH.nil)
            go_simp
            refine hK.out _ _ ⟨HS10.out, HC10.out⟩ (fun _ => ?_)
            clear hK K
            try simp only [Act.put, List.getElem_toArray, List.getElem_cons_succ, List.getElem_cons_zero, List.setIfInBounds_toArray, List.set_cons_zero, List.set_cons_succ]
            refine wpAnyH_done (by kernel_rfl) ?_ _
            go_wp2
            go_roundw
            case rel =>
              refine ⟨k + 1, by omega, by go_num, _, M ++ [((⟨root, q, clock, []⟩ : Dr), (.slice none 0 0 : Value))], Z10.out, HO10.out, hap9, hap29, by simp; omega, fun r hr => ?_, hch10⟩
              rw [List.mem_append, List.mem_singleton] at hr
              rcases hr with hr | rfl
              · exact HMS.out r hr
              · exact hqs
            case measure => simp [intOf]; omega
      · have hki : decide ((k : Int) < (nL : Int)) = false := decide_eq_false (by omega)
        have zz : wr.heap[w.heap.size + 1]? = some (.cells #[.slice none 0 0, .int .i64 0, .slice none 0 0] 28) := (hch.block _ (by omega) (fun y => y.elim (fun y => by omega) (fun y => by have := (hobd _ (Or.inl y)).2; omega))).trans HB1.out
        obtain ⟨_, t0, t1, t2⟩ := rows3 zz
        obtain ⟨⟨u0, u1, u2⟩, _⟩ := rows3 zz
        have hput := put3 zz (.slice ta tn tc) (.int .i64 clock) (.slice ua M.length uc)
        have HPUT := Lib.hid hput
        have HCH := Lib.hid hch
        clear zz hput hch
        go_wp2
        refine bodyPost_ret (results_cell_row rfl _ _ (w.heap.size + 1) 28 _ (0, 0) _ rfl HPUT.out.1 Tryd.underlying28 rfl (by kernel_rfl)) rfl ?_
        refine ⟨_, M, rfl, HO.out.chg (p := fun b => b = w.heap.size + 1) (ChgN.of_grown HPUT.out.2 (fun b hb => by injection hb with hb; exact hb.symm)) (fun b hb y => by rcases HAP.out b hb with z | z <;> omega), by omega, HMS.out, ?_⟩
        have c := HCH.out
        have g := HPUT.out.2
        exact ⟨g.os.trans (c.os.trans hg5.os), g.tape.trans (c.tape.trans hg5.tape), g.output.trans (c.output.trans hg5.output), Nat.le_trans hg5.size (Nat.le_trans c.size g.size), fun b h1 h2 => (g.block b (by omega) (by intro y; injection y with y; omega)).trans ((c.block b (by omega) (fun y => y.elim (fun y => by omega) (fun y => h2 y.symm))).trans (hg5.block b h1))⟩
end Go.Proofs.YtepljjaienpepaaDoor
