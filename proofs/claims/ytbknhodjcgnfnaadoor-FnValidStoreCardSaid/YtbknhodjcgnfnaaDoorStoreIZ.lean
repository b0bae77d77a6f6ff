/-
  Walks: valid stores of what is compiled, as the program tells them. Printed by stored.py.
-/
import Derived.Test.YtbknhodjcgnfnaaDoorStoreZ
namespace Go.Proofs.YtbknhodjcgnfnaaDoor
open Go Go.RowKit Imp
set_option linter.unusedVariables false
set_option linter.unusedSimpArgs false
abbrev atV (b1 b2 b3 : Nat) : Value := .func (.func 41) #[] #[.pointer (some ⟨b1, 0, none⟩), .pointer (some ⟨b2, 0, none⟩), .pointer (some ⟨b3, 0, none⟩)]
theorem iat_any {lo hi : Nat} (x : CR) (root : Int) (m : ByteArray) (init : Bool) (b1 b2 b3 : Nat) (w : World) (hx : CmR w lo hi x) (h1 : w.heap[b1]? = some (.cells #[.int .i64 root] 3 (0, 0))) (h2 : w.heap[b2]? = some (.cells #[.string m] 9 (0, 0))) (h3 : w.heap[b3]? = some (.cells #[.bool init] 4 (0, 0))) :
    Calls Tryd.prog 41 #[vC x, .pointer (some ⟨b1, 0, none⟩), .pointer (some ⟨b2, 0, none⟩), .pointer (some ⟨b3, 0, none⟩)] w fun e w' => e = .returned (.bool (samC root m init x.1)) ∧ Gr w w' := by
  have k1 := lt_of_block h1
  have k2 := lt_of_block h2
  have k3 := lt_of_block h3
  have d1 := cell_of_one h1
  have d2 := cell_of_one h2
  have d3 := cell_of_one h3
  have n1 : ¬ b1 = w.heap.size := by omega
  have n2 : ¬ b2 = w.heap.size := by omega
  have n3 : ¬ b3 = w.heap.size := by omega
  obtain ⟨⟨r0, mo, ini, mode, stamp, size, hash, body⟩, bv⟩ := x
  have hx : SlR w lo hi 5 eSt bv body := hx
  obtain ⟨xa, xc, rfl, _, _⟩ := hx.form
  simp only at *
  have hS : samC root m init ⟨r0, mo, ini, mode, stamp, size, hash, body⟩ = (r0 == root && (mo.toList == m.toList) && (ini == init)) := rfl
  obtain ⟨B1, hB1⟩ : ∃ B, (r0 == root) = B := ⟨_, rfl⟩
  obtain ⟨B2, hB2⟩ : ∃ B, (mo.toList == m.toList) = B := ⟨_, rfl⟩
  obtain ⟨B3, hB3⟩ : ∃ B, (ini == init) = B := ⟨_, rfl⟩
  rw [hB1, hB2, hB3] at hS
  have HS := Lib.hid hS
  clear hS hx h1 h2 h3
  cases B1 <;> cases B2 <;> cases B3
  all_goals go_enter Tryd.func41, Tryd.ntmps41
  all_goals go_wp2
  all_goals go_ret
  all_goals exact ⟨ret_bool (by rw [HS.out]; rfl), by first | exact gr_al _ _ | exact Below.drew (gr_al _ _)⟩
theorem iindexC_any {lo hi : Nat} (v : Value) (L : List CR) (root : Int) (m : ByteArray) (init : Bool) (b1 b2 b3 : Nat) (w : World) (hv0 : SlR w lo hi 8 eCp v L) (hhi : hi ≤ w.heap.size) (hbd : ∀ r ∈ L, CmR w lo hi r)
    (k1 : w.heap[b1]? = some (.cells #[.int .i64 root] 3 (0, 0))) (k2 : w.heap[b2]? = some (.cells #[.string m] 9 (0, 0))) (k3 : w.heap[b3]? = some (.cells #[.bool init] 4 (0, 0))) :
    Calls Tryd.prog 40 #[v, atV b1 b2 b3] w fun e w' => e = .returned (.int .i64 (ix (fun r : CR => samC root m init r.1) L)) ∧ Gr w w' := by
  obtain ⟨a, c, rfl, h1, h2, h3⟩ := hv0
  unfold maxLen at h2
  obtain ⟨R, hR⟩ : ∃ R, R = ix (fun r : CR => samC root m init r.1) L := ⟨_, rfl⟩
  rw [← hR]
  have HR := Lib.hid hR
  have HBD := Lib.hid hbd
  have HK1 := Lib.hid k1
  have HK2 := Lib.hid k2
  have HK3 := Lib.hid k3
  clear hR hbd k1 k2 k3
  go_enter Tryd.func40, Tryd.ntmps40
  go_wp2
  go_loopw [8] (fun i wr => ∃ k : Nat, k ≤ L.length ∧ i = .int .i64 k ∧ (L.take k).any (fun r : CR => samC root m init r.1) = false ∧ Gr w wr) (fun i _ => L.length - (intOf i).toNat)
  case atStart => exact ⟨0, Nat.zero_le _, rfl, by simp, Gr.rfl' _⟩
  case round =>
    obtain ⟨k, hk, rfl, hall, hgw⟩ := hrel
    have H := Lib.hid hall
    clear hall
    by_cases hlt : k < L.length
    · obtain ⟨b, o, rfl, hbb, hc⟩ := h3 k hlt
      obtain ⟨x, hx⟩ : ∃ x, x = L[k] := ⟨_, rfl⟩
      obtain ⟨c0, c1, c2, c3, c4, c5, c6, c7⟩ := cells_cmp (w := wr) (b := b) (o := o) (k := k) (x := x) (fun j u hu => (hgw.cell (p := ⟨b, o + k * 8 + j, none⟩) (Nat.lt_of_lt_of_le hbb.2 hhi)).trans (hc j u (by rw [← hx]; exact hu)))
      have hbx := HBD.out _ (List.getElem_mem hlt)
      rw [← hx] at hbx
      have hcall := iat_any x root m init b1 b2 b3 wr (SlR.below hbx hgw hhi) ((hgw.block b1 (lt_of_block HK1.out)).trans HK1.out) ((hgw.block b2 (lt_of_block HK2.out)).trans HK2.out) ((hgw.block b3 (lt_of_block HK3.out)).trans HK3.out)
      obtain ⟨S, hS⟩ : ∃ S, S = samC root m init x.1 := ⟨_, rfl⟩
      rw [← hS] at hcall
      have HC := Lib.hid hcall
      have HS := Lib.hid hS
      have HX := Lib.hid hx
      have hki : (k : Int) < (L.length : Int) := by omega
      clear hc h3 hx hS hcall hbx
      cases S
      · go_wp2_with fail
        refine HC.out.mono ?_
        rintro e w2 ⟨rfl, hb2⟩
        go_wp2
        go_roundw
        case rel => exact ⟨k + 1, by omega, by go_num, by rw [any_take_succ _ _ _ hlt, H.out, ← HX.out, ← HS.out]; rfl, hgw.tr hb2⟩
        case measure => simp [intOf]; omega
      · go_wp2_with fail
        refine HC.out.mono ?_
        rintro e w2 ⟨rfl, hb2⟩
        go_wp2
        go_ret
        exact ⟨ret_i (by rw [HR.out]; exact (ix_hit hlt H.out (by rw [← HX.out]; exact HS.out.symm)).symm), hgw.tr hb2⟩
    · go_wp2
      go_ret
      exact ⟨ret_i (by rw [HR.out]; exact (ix_none (by rw [← List.take_of_length_le (show L.length ≤ k by omega)]; exact H.out)).symm), hgw⟩
theorem icompiledAt_any {lo hi : Nat} (v : Value) (L : List CR) (root : Int) (m : ByteArray) (init : Bool) (w : World) (hv0 : SlR w lo hi 8 eCp v L) (hhi : hi ≤ w.heap.size) (hbd : ∀ r ∈ L, CmR w lo hi r) :
    Calls Tryd.prog 20 #[v, .int .i64 root, .string m, .bool init] w fun e w' => e = .returned (.int .i64 (ix (fun r : CR => samC root m init r.1) L)) ∧ Gr w w' := by
  have hg3 := gr_alloc3 w (.cells #[.int .i64 root] 3) (.cells #[.string m] 9) (.cells #[.bool init] 4)
  have hk1 := (((Below.heap_alloc ((w.alloc (.cells #[.int .i64 root] 3)).alloc (.cells #[.string m] 9)) (.cells #[.bool init] 4) w.heap.size (by simp <;> omega)).trans (Below.heap_alloc (w.alloc (.cells #[.int .i64 root] 3)) (.cells #[.string m] 9) w.heap.size (by simp <;> omega)))).trans (heap_alloc_new w (.cells #[.int .i64 root] 3))
  have hk2 := heap_alloc3_mid w (.cells #[.int .i64 root] 3) (.cells #[.string m] 9) (.cells #[.bool init] 4)
  have hk3 := heap_alloc3_new w (.cells #[.int .i64 root] 3) (.cells #[.string m] 9) (.cells #[.bool init] 4)
  have h := iindexC_any v L root m init w.heap.size (w.heap.size + 1) (w.heap.size + 1 + 1) (((w.alloc (.cells #[.int .i64 root] 3)).alloc (.cells #[.string m] 9)).alloc (.cells #[.bool init] 4)) (SlR.below hv0 hg3 hhi) (Nat.le_trans hhi hg3.size) (fun r hr => SlR.below (hbd r hr) hg3 hhi) hk1 hk2 hk3
  generalize ix (fun r : CR => samC root m init r.1) L = R at h
  have H := Lib.hid h
  have hmf : (Tryd.prog.funcs[(41 : Nat)]?).isSome = true := by kernel_rfl
  obtain ⟨a, c, rfl, _, _⟩ := hv0.form
  clear h hk1 hk2 hk3
  go_enter Tryd.func20, Tryd.ntmps20
  go_wp2_with fail
  refine H.out.mono ?_
  rintro e w2 ⟨rfl, hb2⟩
  go_wp2
  go_ret
  exact ⟨rfl, hg3.tr hb2⟩
set_option maxHeartbeats 6400000 in
theorem iValidStore_any {lo hi : Nat} (v : Value) (L : List CR) (w : World) (hok : OkW w) (hv0 : StR w lo hi v L) (hhi : hi ≤ w.heap.size) (hsm : ∀ r ∈ L, SmC r) :
    Calls Tryd.prog 6 #[v] w fun e w' => e = .returned (.bool (okStore (L.map (·.1)))) ∧ Gr w w' := by
  obtain ⟨hv, hbod⟩ := hv0
  have HV := Lib.hid hv
  obtain ⟨a, c, rfl, h1, h2, h3⟩ := hv
  unfold maxLen at h2
  obtain ⟨R, hR⟩ : ∃ R, R = okStore (L.map (·.1)) := ⟨_, rfl⟩
  rw [← hR]
  rw [okStore, List.length_map] at hR
  have HR := Lib.hid hR
  have HB := Lib.hid hbod
  have HM := Lib.hid hsm
  clear hR hbod hsm
  go_enter Tryd.func6, Tryd.ntmps6
  go_wp2
  go_loopw [7] (fun i wr => ∃ k : Nat, k ≤ L.length ∧ i = .int .i64 k ∧ (List.range k).all (goodC (L.map (·.1))) = true ∧ Gr w wr) (fun i _ => L.length - (intOf i).toNat)
  case atStart => exact ⟨0, Nat.zero_le _, rfl, by simp, Gr.rfl' _⟩
  case round =>
    obtain ⟨k, hk, rfl, hall, hgw⟩ := hrel
    have H := Lib.hid hall
    clear hall
    by_cases hlt : k < L.length
    · obtain ⟨b, o, rfl, hbb, hc⟩ := h3 k hlt
      obtain ⟨x, hx⟩ : ∃ x, x = L[k] := ⟨_, rfl⟩
      obtain ⟨c0, c1, c2, c3, c4, c5, c6, c7⟩ := cells_cmp (w := wr) (b := b) (o := o) (k := k) (x := x) (fun j u hu => (hgw.cell (p := ⟨b, o + k * 8 + j, none⟩) (Nat.lt_of_lt_of_le hbb.2 hhi)).trans (hc j u (by rw [← hx]; exact hu)))
      have hbx := HB.out _ (List.getElem_mem hlt)
      have hmx := HM.out _ (List.getElem_mem hlt)
      rw [← hx] at hbx hmx
      obtain ⟨xa, xc, hx2, _, _⟩ := SlR.form hbx
      unfold CmR at hbx
      rw [hx2] at hbx c7
      have hst : ∀ s ∈ x.1.body, szSt s ≤ 16777216 := fun s hs => Nat.le_trans (totB_mem hs) hmx.2.2
      have hga := goodC_map hlt
      have hix := ix_lt (p := fun r : CR => samC x.1.root x.1.mod x.1.init r.1) hlt (by rw [← hx]; exact samC_refl _)
      have hil := ix_le (p := fun r : CR => samC x.1.root x.1.mod x.1.init r.1) hlt (by rw [← hx]; exact samC_refl _)
      rw [← hx, ← hix, okCmp] at hga
      have hk1 : (1 : Nat) = 1 := rfl
      have hc1 := fun W => within_any x.1.root 0 2 W
      have hc3 := fun W => imodeOk_any x.1.mode W
      have hc4 := fun W => within_any x.1.stamp 0 99 W
      have hc2 := fun W (h : Gr w W) => iValidName_any x.1.mod W hmx.1 (hok.gr h)
      have hc5 := fun W (h : Gr w W) => iValidBody_any (.slice xa x.1.body.length xc) x.1.body W (SlR.below hbx h hhi) (Nat.le_trans hhi h.size) hst (hok.gr h)
      have hc6 := fun W (h : Gr w W) => iSizeOf_any (.slice xa x.1.body.length xc) x.1.body W (SlR.below hbx h hhi) (Nat.le_trans hhi h.size) hmx.2.1 hmx.2.2 (hok.gr h)
      have hc7 := fun W (h : Gr w W) => iHashOf_any (.slice xa x.1.body.length xc) x.1.body W (SlR.below hbx h hhi) (Nat.le_trans hhi h.size) hst (hok.gr h)
      have hc8 := fun W (h : Gr w W) => icompiledAt_any (.slice (some ⟨b, o, none⟩) L.length c) L x.1.root x.1.mod x.1.init W (HV.out.below h hhi) (Nat.le_trans hhi h.size) (fun r hr => SlR.below (HB.out r hr) h hhi)
      obtain ⟨B1, hB1⟩ : ∃ B, (decide (0 ≤ x.1.root) && decide (x.1.root ≤ 2)) = B := ⟨_, rfl⟩
      obtain ⟨B2, hB2⟩ : ∃ B, vName (bs x.1.mod) = B := ⟨_, rfl⟩
      obtain ⟨B3, hB3⟩ : ∃ B, (decide (0 ≤ x.1.mode) && decide (x.1.mode ≤ 2)) = B := ⟨_, rfl⟩
      obtain ⟨B4, hB4⟩ : ∃ B, (decide (0 ≤ x.1.stamp) && decide (x.1.stamp ≤ 99)) = B := ⟨_, rfl⟩
      obtain ⟨B5, hB5⟩ : ∃ B, okBody x.1.body = B := ⟨_, rfl⟩
      obtain ⟨Sz, hSz⟩ : ∃ S, sizP x.1.body = S := ⟨_, rfl⟩
      obtain ⟨Hs, hHs⟩ : ∃ S, hashP x.1.body = S := ⟨_, rfl⟩
      obtain ⟨I, hI⟩ : ∃ I, ix (fun r : CR => samC x.1.root x.1.mod x.1.init r.1) L = I := ⟨_, rfl⟩
      rw [hI] at hga hc8 hil
      rw [hSz, hHs] at hga
      have hc6' : okBody x.1.body = true → ∀ W (h : Gr w W), Calls Tryd.prog 13 #[.slice xa x.1.body.length xc] W fun e w' => e = .returned (.int .i64 Sz) ∧ Gr W w' := by
        intro q W h
        have := hc6 W h
        rw [fSize_at q] at this
        change Calls _ _ _ _ (fun e w' => e = .returned (.int .i64 (sizP x.1.body)) ∧ Gr W w') at this
        rwa [hSz] at this
      have hc7' : okBody x.1.body = true → ∀ W (h : Gr w W), Calls Tryd.prog 12 #[.slice xa x.1.body.length xc] W fun e w' => e = .returned (.int .i64 Hs) ∧ Gr W w' := by
        intro q W h
        have := hc7 W h
        rwa [fHash_at q, hHs] at this
      clear hc6 hc7
      have hc6 := hc6'
      have hc7 := hc7'
      clear hc6' hc7'
      obtain ⟨B6, hB6⟩ : ∃ B, (x.1.size != Sz) = B := ⟨_, rfl⟩
      obtain ⟨B7, hB7⟩ : ∃ B, (x.1.hash != Hs) = B := ⟨_, rfl⟩
      rw [hB1, hB2, hB3, hB4, hB5, hB6, hB7] at hga
      simp only [hB1] at hc1
      simp only [hB2] at hc2
      simp only [hB3] at hc3
      simp only [hB4] at hc4
      simp only [hB5] at hc5 hc6 hc7
      have HGA := Lib.hid hga
      have HC1 := Lib.hid hc1
      have HC2 := Lib.hid hc2
      have HC3 := Lib.hid hc3
      have HC4 := Lib.hid hc4
      have HC5 := Lib.hid hc5
      have HC6 := Lib.hid hc6
      have HC7 := Lib.hid hc7
      have HC8 := Lib.hid hc8
      have hki : (k : Int) < (L.length : Int) := by omega
      have hlt' : k < (L.map (·.1)).length := by rw [List.length_map]; exact hlt
      have hrow := heap_alloc_new wr (.cells #[.int .i64 x.1.root, .string x.1.mod, .bool x.1.init, .int .i64 x.1.mode, .int .i64 x.1.stamp, .int .i64 x.1.size, .int .i64 x.1.hash, .slice xa x.1.body.length xc] 29)
      have hga1 := gr_al wr (.cells #[.int .i64 x.1.root, .string x.1.mod, .bool x.1.init, .int .i64 x.1.mode, .int .i64 x.1.stamp, .int .i64 x.1.size, .int .i64 x.1.hash, .slice xa x.1.body.length xc] 29)
      have hall : ∀ W, Gr (wr.alloc (.cells #[.int .i64 x.1.root, .string x.1.mod, .bool x.1.init, .int .i64 x.1.mode, .int .i64 x.1.stamp, .int .i64 x.1.size, .int .i64 x.1.hash, .slice xa x.1.body.length xc] 29)) W → Gr (wr.alloc (.cells #[.int .i64 x.1.root, .string x.1.mod, .bool x.1.init, .int .i64 x.1.mode, .int .i64 x.1.stamp, .int .i64 x.1.size, .int .i64 x.1.hash, .slice xa x.1.body.length xc] 29)) W ∧ W.cell? ⟨wr.heap.size, 0, none⟩ = some (.int .i64 x.1.root) ∧ W.cell? ⟨wr.heap.size, 1, none⟩ = some (.string x.1.mod) ∧ W.cell? ⟨wr.heap.size, 2, none⟩ = some (.bool x.1.init) ∧ W.cell? ⟨wr.heap.size, 3, none⟩ = some (.int .i64 x.1.mode) ∧ W.cell? ⟨wr.heap.size, 4, none⟩ = some (.int .i64 x.1.stamp) ∧ W.cell? ⟨wr.heap.size, 5, none⟩ = some (.int .i64 x.1.size) ∧ W.cell? ⟨wr.heap.size, 6, none⟩ = some (.int .i64 x.1.hash) ∧ W.cell? ⟨wr.heap.size, 7, none⟩ = some (.slice xa x.1.body.length xc) :=
        fun W h => ⟨h, (rows8 ((h.block wr.heap.size (by simp)).trans hrow)).1⟩
      have HALL := Lib.hid hall
      clear hc h3 hx hx2 hbx hmx hst hga hix hc1 hc2 hc3 hc4 hc5 hc6 hc7 hc8 hB1 hB2 hB3 hB4 hB5 hSz hHs hI hall hrow hk1
      cases B1
      · skip
        go_wp2_with fail
        refine (HC1.out _).mono ?_
        rintro e w' ⟨rfl, rfl⟩
        go_wp2
        go_ret
        exact ⟨ret_bool (by rw [HR.out, ← List.length_map (f := fun r : CR => r.1), range_all_bad hlt' (by rw [HGA.out]; rfl)]; rfl), (hgw.tr hga1).tr (Gr.rfl' (wr.alloc (.cells #[.int .i64 x.1.root, .string x.1.mod, .bool x.1.init, .int .i64 x.1.mode, .int .i64 x.1.stamp, .int .i64 x.1.size, .int .i64 x.1.hash, .slice xa x.1.body.length xc] 29)))⟩
      · skip
        cases B2
        · skip
          go_wp2_with fail
          refine (HC1.out _).mono ?_
          rintro e w' ⟨rfl, rfl⟩
          go_wp2_with fail
          refine (HC2.out _ ((hgw.tr hga1).tr (Gr.rfl' (wr.alloc (.cells #[.int .i64 x.1.root, .string x.1.mod, .bool x.1.init, .int .i64 x.1.mode, .int .i64 x.1.stamp, .int .i64 x.1.size, .int .i64 x.1.hash, .slice xa x.1.body.length xc] 29))))).mono ?_
          rintro e v2 ⟨rfl, hb2⟩
          have gg2 := Gr.tr (Gr.rfl' (wr.alloc (.cells #[.int .i64 x.1.root, .string x.1.mod, .bool x.1.init, .int .i64 x.1.mode, .int .i64 x.1.stamp, .int .i64 x.1.size, .int .i64 x.1.hash, .slice xa x.1.body.length xc] 29))) hb2
          skip
          obtain ⟨e0, e1, e2, e3, e4, e5, e6, e7⟩ := (HALL.out _ gg2).2
          go_wp2
          go_ret
          exact ⟨ret_bool (by rw [HR.out, ← List.length_map (f := fun r : CR => r.1), range_all_bad hlt' (by rw [HGA.out]; rfl)]; rfl), (hgw.tr hga1).tr gg2⟩
        · skip
          cases B3
          · skip
            go_wp2_with fail
            refine (HC1.out _).mono ?_
            rintro e w' ⟨rfl, rfl⟩
            go_wp2_with fail
            refine (HC2.out _ ((hgw.tr hga1).tr (Gr.rfl' (wr.alloc (.cells #[.int .i64 x.1.root, .string x.1.mod, .bool x.1.init, .int .i64 x.1.mode, .int .i64 x.1.stamp, .int .i64 x.1.size, .int .i64 x.1.hash, .slice xa x.1.body.length xc] 29))))).mono ?_
            rintro e v2 ⟨rfl, hb2⟩
            have gg2 := Gr.tr (Gr.rfl' (wr.alloc (.cells #[.int .i64 x.1.root, .string x.1.mod, .bool x.1.init, .int .i64 x.1.mode, .int .i64 x.1.stamp, .int .i64 x.1.size, .int .i64 x.1.hash, .slice xa x.1.body.length xc] 29))) hb2
            skip
            obtain ⟨e0, e1, e2, e3, e4, e5, e6, e7⟩ := (HALL.out _ gg2).2
            go_wp2_with fail
            refine (HC3.out _).mono ?_
            rintro e w' ⟨rfl, rfl⟩
            go_wp2
            go_ret
            exact ⟨ret_bool (by rw [HR.out, ← List.length_map (f := fun r : CR => r.1), range_all_bad hlt' (by rw [HGA.out]; rfl)]; rfl), (hgw.tr hga1).tr gg2⟩
          · skip
            cases B4
            · skip
              go_wp2_with fail
              refine (HC1.out _).mono ?_
              rintro e w' ⟨rfl, rfl⟩
              go_wp2_with fail
              refine (HC2.out _ ((hgw.tr hga1).tr (Gr.rfl' (wr.alloc (.cells #[.int .i64 x.1.root, .string x.1.mod, .bool x.1.init, .int .i64 x.1.mode, .int .i64 x.1.stamp, .int .i64 x.1.size, .int .i64 x.1.hash, .slice xa x.1.body.length xc] 29))))).mono ?_
              rintro e v2 ⟨rfl, hb2⟩
              have gg2 := Gr.tr (Gr.rfl' (wr.alloc (.cells #[.int .i64 x.1.root, .string x.1.mod, .bool x.1.init, .int .i64 x.1.mode, .int .i64 x.1.stamp, .int .i64 x.1.size, .int .i64 x.1.hash, .slice xa x.1.body.length xc] 29))) hb2
              skip
              obtain ⟨e0, e1, e2, e3, e4, e5, e6, e7⟩ := (HALL.out _ gg2).2
              go_wp2_with fail
              refine (HC3.out _).mono ?_
              rintro e w' ⟨rfl, rfl⟩
              go_wp2_with fail
              refine (HC4.out _).mono ?_
              rintro e w' ⟨rfl, rfl⟩
              go_wp2
              go_ret
              exact ⟨ret_bool (by rw [HR.out, ← List.length_map (f := fun r : CR => r.1), range_all_bad hlt' (by rw [HGA.out]; rfl)]; rfl), (hgw.tr hga1).tr gg2⟩
            · skip
              cases B5
              · skip
                go_wp2_with fail
                refine (HC1.out _).mono ?_
                rintro e w' ⟨rfl, rfl⟩
                go_wp2_with fail
                refine (HC2.out _ ((hgw.tr hga1).tr (Gr.rfl' (wr.alloc (.cells #[.int .i64 x.1.root, .string x.1.mod, .bool x.1.init, .int .i64 x.1.mode, .int .i64 x.1.stamp, .int .i64 x.1.size, .int .i64 x.1.hash, .slice xa x.1.body.length xc] 29))))).mono ?_
                rintro e v2 ⟨rfl, hb2⟩
                have gg2 := Gr.tr (Gr.rfl' (wr.alloc (.cells #[.int .i64 x.1.root, .string x.1.mod, .bool x.1.init, .int .i64 x.1.mode, .int .i64 x.1.stamp, .int .i64 x.1.size, .int .i64 x.1.hash, .slice xa x.1.body.length xc] 29))) hb2
                skip
                obtain ⟨e0, e1, e2, e3, e4, e5, e6, e7⟩ := (HALL.out _ gg2).2
                go_wp2_with fail
                refine (HC3.out _).mono ?_
                rintro e w' ⟨rfl, rfl⟩
                go_wp2_with fail
                refine (HC4.out _).mono ?_
                rintro e w' ⟨rfl, rfl⟩
                go_wp2_with fail
                refine (HC5.out _ ((hgw.tr hga1).tr gg2)).mono ?_
                rintro e v5 ⟨rfl, hb5⟩
                have gg5 := Gr.tr gg2 hb5
                clear e0 e1 e2 e3 e4 e5 e6 e7
                obtain ⟨e0, e1, e2, e3, e4, e5, e6, e7⟩ := (HALL.out _ gg5).2
                go_wp2
                go_ret
                exact ⟨ret_bool (by rw [HR.out, ← List.length_map (f := fun r : CR => r.1), range_all_bad hlt' (by rw [HGA.out]; rfl)]; rfl), (hgw.tr hga1).tr gg5⟩
              · skip
                cases B6
                · skip
                  cases B7
                  · skip
                    by_cases hIlt : I < (k : Int)
                    · have hIn : (I != (k : Int)) = true := by rw [bne_iff_ne]; omega
                      go_wp2_with fail
                      refine (HC1.out _).mono ?_
                      rintro e w' ⟨rfl, rfl⟩
                      go_wp2_with fail
                      refine (HC2.out _ ((hgw.tr hga1).tr (Gr.rfl' (wr.alloc (.cells #[.int .i64 x.1.root, .string x.1.mod, .bool x.1.init, .int .i64 x.1.mode, .int .i64 x.1.stamp, .int .i64 x.1.size, .int .i64 x.1.hash, .slice xa x.1.body.length xc] 29))))).mono ?_
                      rintro e v2 ⟨rfl, hb2⟩
                      have gg2 := Gr.tr (Gr.rfl' (wr.alloc (.cells #[.int .i64 x.1.root, .string x.1.mod, .bool x.1.init, .int .i64 x.1.mode, .int .i64 x.1.stamp, .int .i64 x.1.size, .int .i64 x.1.hash, .slice xa x.1.body.length xc] 29))) hb2
                      skip
                      obtain ⟨e0, e1, e2, e3, e4, e5, e6, e7⟩ := (HALL.out _ gg2).2
                      go_wp2_with fail
                      refine (HC3.out _).mono ?_
                      rintro e w' ⟨rfl, rfl⟩
                      go_wp2_with fail
                      refine (HC4.out _).mono ?_
                      rintro e w' ⟨rfl, rfl⟩
                      go_wp2_with fail
                      refine (HC5.out _ ((hgw.tr hga1).tr gg2)).mono ?_
                      rintro e v5 ⟨rfl, hb5⟩
                      have gg5 := Gr.tr gg2 hb5
                      clear e0 e1 e2 e3 e4 e5 e6 e7
                      obtain ⟨e0, e1, e2, e3, e4, e5, e6, e7⟩ := (HALL.out _ gg5).2
                      go_wp2
                      refine wp_region_held_drew (S := (fun W => Gr (wr.alloc (.cells #[.int .i64 x.1.root, .string x.1.mod, .bool x.1.init, .int .i64 x.1.mode, .int .i64 x.1.stamp, .int .i64 x.1.size, .int .i64 x.1.hash, .slice xa x.1.body.length xc] 29)) W ∧ W.cell? ⟨wr.heap.size, 0, none⟩ = some (.int .i64 x.1.root) ∧ W.cell? ⟨wr.heap.size, 1, none⟩ = some (.string x.1.mod) ∧ W.cell? ⟨wr.heap.size, 2, none⟩ = some (.bool x.1.init) ∧ W.cell? ⟨wr.heap.size, 3, none⟩ = some (.int .i64 x.1.mode) ∧ W.cell? ⟨wr.heap.size, 4, none⟩ = some (.int .i64 x.1.stamp) ∧ W.cell? ⟨wr.heap.size, 5, none⟩ = some (.int .i64 x.1.size) ∧ W.cell? ⟨wr.heap.size, 6, none⟩ = some (.int .i64 x.1.hash) ∧ W.cell? ⟨wr.heap.size, 7, none⟩ = some (.slice xa x.1.body.length xc))) (by kernel_rfl) (HALL.out _ (below_drewN gg5 1)) (fun hS0 => ?_)
                      refine wpAnyH_take (i := 0) (v := ?_) rfl (by kernel_rfl) (by kernel_rfl) (by kernel_rfl) (fun _ _ _ h => h) (Or.inl ⟨by rfl, ?_⟩) hS0 ?_
                      rotate_left
                      · (intro W hSw; (try dsimp only at hSw); go_simp; try (with_reducible rfl))
                      try simp only [Act.put, List.getElem_toArray, List.getElem_cons_succ, List.getElem_cons_zero, List.setIfInBounds_toArray, List.set_cons_zero, List.set_cons_succ]
                      refine wpAnyH_take (i := 1) (v := ?_) rfl (by kernel_rfl) (by kernel_rfl) (by kernel_rfl) (fun _ _ _ h => h) (Or.inl ⟨by rfl, ?_⟩) hS0 ?_
                      rotate_left
                      · (intro W hSw; (try dsimp only at hSw); go_simp; try (with_reducible rfl))
                      try simp only [Act.put, List.getElem_toArray, List.getElem_cons_succ, List.getElem_cons_zero, List.setIfInBounds_toArray, List.set_cons_zero, List.set_cons_succ]
                      refine wpAnyH_take (i := 2) (v := ?_) rfl (by kernel_rfl) (by kernel_rfl) (by kernel_rfl) (fun _ _ _ h => h) (Or.inl ⟨by rfl, ?_⟩) hS0 ?_
                      rotate_left
                      · (intro W hSw; (try dsimp only at hSw); go_simp; try (with_reducible rfl))
                      try simp only [Act.put, List.getElem_toArray, List.getElem_cons_succ, List.getElem_cons_zero, List.setIfInBounds_toArray, List.set_cons_zero, List.set_cons_succ]
                      refine wpAnyH_take (i := 3) (v := ?_) rfl (by kernel_rfl) (by kernel_rfl) (by kernel_rfl) (fun _ _ _ h => h) (Or.inl ⟨by rfl, ?_⟩) hS0 ?_
                      rotate_left
                      · (intro W hSw; (try dsimp only at hSw); go_simp; try (with_reducible rfl))
                      try simp only [Act.put, List.getElem_toArray, List.getElem_cons_succ, List.getElem_cons_zero, List.setIfInBounds_toArray, List.set_cons_zero, List.set_cons_succ]
                      refine wpAnyH_ready (rs := [4]) (by kernel_rfl) (by simp) ?_
                      refine AllReadyH.cons rfl (fun K hK => ?_) AllReadyH.nil
                      go_simp
                      refine (HC6.out (by simp) _ ((hgw.tr hga1).tr hS0.1)).mono ?_
                      rintro e w1 ⟨rfl, hb1⟩
                      try go_wp2_with fail
                      refine hK.out _ _ (HALL.out _ (hS0.1.tr hb1)) (fun hS1 => ?_)
                      clear hK K
                      try simp only [Act.put, List.getElem_toArray, List.getElem_cons_succ, List.getElem_cons_zero, List.setIfInBounds_toArray, List.set_cons_zero, List.set_cons_succ]
                      refine wpAnyH_take (i := 5) (v := ?_) rfl (by kernel_rfl) (by kernel_rfl) (by kernel_rfl) (fun _ _ _ h => h) (Or.inl ⟨by rfl, ?_⟩) hS1 ?_
                      rotate_left
                      · (intro W hSw; (try dsimp only at hSw); go_simp; try (with_reducible rfl))
                      try simp only [Act.put, List.getElem_toArray, List.getElem_cons_succ, List.getElem_cons_zero, List.setIfInBounds_toArray, List.set_cons_zero, List.set_cons_succ]
                      refine wpAnyH_take (i := 6) (v := ?_) rfl (by kernel_rfl) (by kernel_rfl) (by kernel_rfl) (fun _ _ _ h => h) (Or.inl ⟨by rfl, ?_⟩) hS1 ?_
                      rotate_left
                      · (intro W hSw; (try dsimp only at hSw); go_simp; try (with_reducible rfl))
                      try simp only [Act.put, List.getElem_toArray, List.getElem_cons_succ, List.getElem_cons_zero, List.setIfInBounds_toArray, List.set_cons_zero, List.set_cons_succ]
                      refine wpAnyH_take (i := 7) (v := ?_) rfl (by kernel_rfl) (by kernel_rfl) (by kernel_rfl) (fun _ _ _ h => h) (Or.inl ⟨by rfl, ?_⟩) hS1 ?_
                      rotate_left
                      · (intro W hSw; (try dsimp only at hSw); go_simp; try (with_reducible rfl))
                      try simp only [Act.put, List.getElem_toArray, List.getElem_cons_succ, List.getElem_cons_zero, List.setIfInBounds_toArray, List.set_cons_zero, List.set_cons_succ]
                      refine wpAnyH_take (i := 8) (v := ?_) rfl (by kernel_rfl) (by kernel_rfl) (by kernel_rfl) (fun _ _ _ h => h) (Or.inl ⟨by rfl, ?_⟩) hS1 ?_
                      rotate_left
                      · (intro W hSw; (try dsimp only at hSw); go_simp; try (with_reducible rfl))
                      try simp only [Act.put, List.getElem_toArray, List.getElem_cons_succ, List.getElem_cons_zero, List.setIfInBounds_toArray, List.set_cons_zero, List.set_cons_succ]
                      refine wpAnyH_take (i := 9) (v := ?_) rfl (by kernel_rfl) (by kernel_rfl) (by kernel_rfl) (fun _ _ _ h => h) (Or.inl ⟨by rfl, ?_⟩) hS1 ?_
                      rotate_left
                      · (intro W hSw; (try dsimp only at hSw); go_simp; try (with_reducible rfl))
                      try simp only [Act.put, List.getElem_toArray, List.getElem_cons_succ, List.getElem_cons_zero, List.setIfInBounds_toArray, List.set_cons_zero, List.set_cons_succ]
                      refine wpAnyH_take (i := 10) (v := ?_) rfl (by kernel_rfl) (by kernel_rfl) (by kernel_rfl) (fun _ _ _ h => h) (Or.inl ⟨by rfl, ?_⟩) hS1 ?_
                      rotate_left
                      · (intro W hSw; (try dsimp only at hSw); go_simp; try (with_reducible rfl))
                      try simp only [Act.put, List.getElem_toArray, List.getElem_cons_succ, List.getElem_cons_zero, List.setIfInBounds_toArray, List.set_cons_zero, List.set_cons_succ]
                      refine wpAnyH_ready (rs := [11]) (by kernel_rfl) (by simp) ?_
                      refine AllReadyH.cons rfl (fun K hK => ?_) AllReadyH.nil
                      go_simp
                      refine (HC7.out (by simp) _ ((hgw.tr hga1).tr hS1.1)).mono ?_
                      rintro e w2 ⟨rfl, hb2⟩
                      try go_wp2_with fail
                      refine hK.out _ _ (HALL.out _ (hS1.1.tr hb2)) (fun hS2 => ?_)
                      clear hK K
                      try simp only [Act.put, List.getElem_toArray, List.getElem_cons_succ, List.getElem_cons_zero, List.setIfInBounds_toArray, List.set_cons_zero, List.set_cons_succ]
                      refine wpAnyH_take (i := 12) (v := ?_) rfl (by kernel_rfl) (by kernel_rfl) (by kernel_rfl) (fun _ _ _ h => h) (Or.inl ⟨by rfl, ?_⟩) hS2 ?_
                      rotate_left
                      · (intro W hSw; (try dsimp only at hSw); go_simp; try (with_reducible rfl))
                      try simp only [Act.put, List.getElem_toArray, List.getElem_cons_succ, List.getElem_cons_zero, List.setIfInBounds_toArray, List.set_cons_zero, List.set_cons_succ]
                      refine wpAnyH_take (i := 13) (v := ?_) rfl (by kernel_rfl) (by kernel_rfl) (by kernel_rfl) (fun _ _ _ h => h) (Or.inl ⟨by rfl, ?_⟩) hS2 ?_
                      rotate_left
                      · (intro W hSw; (try dsimp only at hSw); go_simp; try (with_reducible rfl))
                      try simp only [Act.put, List.getElem_toArray, List.getElem_cons_succ, List.getElem_cons_zero, List.setIfInBounds_toArray, List.set_cons_zero, List.set_cons_succ]
                      refine wpAnyH_take (i := 14) (v := ?_) rfl (by kernel_rfl) (by kernel_rfl) (by kernel_rfl) (fun _ _ _ h => h) (Or.inl ⟨by rfl, ?_⟩) hS2 ?_
                      rotate_left
                      · (intro W hSw; (try dsimp only at hSw); go_simp; try (with_reducible rfl))
                      try simp only [Act.put, List.getElem_toArray, List.getElem_cons_succ, List.getElem_cons_zero, List.setIfInBounds_toArray, List.set_cons_zero, List.set_cons_succ]
                      refine wpAnyH_take (i := 15) (v := ?_) rfl (by kernel_rfl) (by kernel_rfl) (by kernel_rfl) (fun _ _ _ h => h) (Or.inl ⟨by rfl, ?_⟩) hS2 ?_
                      rotate_left
                      · (intro W hSw; (try dsimp only at hSw); go_simp; try (with_reducible rfl))
                      try simp only [Act.put, List.getElem_toArray, List.getElem_cons_succ, List.getElem_cons_zero, List.setIfInBounds_toArray, List.set_cons_zero, List.set_cons_succ]
                      refine wpAnyH_take (i := 16) (v := ?_) rfl (by kernel_rfl) (by kernel_rfl) (by kernel_rfl) (fun _ _ _ h => h) (Or.inl ⟨by rfl, ?_⟩) hS2 ?_
                      rotate_left
                      · (intro W hSw; (try dsimp only at hSw); go_simp; try (with_reducible rfl))
                      try simp only [Act.put, List.getElem_toArray, List.getElem_cons_succ, List.getElem_cons_zero, List.setIfInBounds_toArray, List.set_cons_zero, List.set_cons_succ]
                      refine wpAnyH_take (i := 17) (v := ?_) rfl (by kernel_rfl) (by kernel_rfl) (by kernel_rfl) (fun _ _ _ h => h) (Or.inl ⟨by rfl, ?_⟩) hS2 ?_
                      rotate_left
                      · (intro W hSw; (try dsimp only at hSw); go_simp; try (with_reducible rfl))
                      try simp only [Act.put, List.getElem_toArray, List.getElem_cons_succ, List.getElem_cons_zero, List.setIfInBounds_toArray, List.set_cons_zero, List.set_cons_succ]
                      refine wpAnyH_take (i := 18) (v := ?_) rfl (by kernel_rfl) (by kernel_rfl) (by kernel_rfl) (fun _ _ _ h => h) (Or.inl ⟨by rfl, ?_⟩) hS2 ?_
                      rotate_left
                      · (intro W hSw; (try dsimp only at hSw); go_simp; try (with_reducible rfl))
                      try simp only [Act.put, List.getElem_toArray, List.getElem_cons_succ, List.getElem_cons_zero, List.setIfInBounds_toArray, List.set_cons_zero, List.set_cons_succ]
                      refine wpAnyH_take (i := 19) (v := ?_) rfl (by kernel_rfl) (by kernel_rfl) (by kernel_rfl) (fun _ _ _ h => h) (Or.inl ⟨by rfl, ?_⟩) hS2 ?_
                      rotate_left
                      · (intro W hSw; (try dsimp only at hSw); go_simp; try (with_reducible rfl))
                      try simp only [Act.put, List.getElem_toArray, List.getElem_cons_succ, List.getElem_cons_zero, List.setIfInBounds_toArray, List.set_cons_zero, List.set_cons_succ]
                      refine wpAnyH_take (i := 20) (v := ?_) rfl (by kernel_rfl) (by kernel_rfl) (by kernel_rfl) (fun _ _ _ h => h) (Or.inl ⟨by rfl, ?_⟩) hS2 ?_
                      rotate_left
                      · (intro W hSw; (try dsimp only at hSw); go_simp; try (with_reducible rfl))
                      try simp only [Act.put, List.getElem_toArray, List.getElem_cons_succ, List.getElem_cons_zero, List.setIfInBounds_toArray, List.set_cons_zero, List.set_cons_succ]
                      refine wpAnyH_take (i := 21) (v := ?_) rfl (by kernel_rfl) (by kernel_rfl) (by kernel_rfl) (fun _ _ _ h => h) (Or.inl ⟨by rfl, ?_⟩) hS2 ?_
                      rotate_left
                      · (intro W hSw; (try dsimp only at hSw); go_simp; try (with_reducible rfl))
                      try simp only [Act.put, List.getElem_toArray, List.getElem_cons_succ, List.getElem_cons_zero, List.setIfInBounds_toArray, List.set_cons_zero, List.set_cons_succ]
                      refine wpAnyH_take (i := 23) (v := ?_) rfl (by kernel_rfl) (by kernel_rfl) (by kernel_rfl) (fun _ _ _ h => h) (Or.inl ⟨by rfl, ?_⟩) hS2 ?_
                      rotate_left
                      · (intro W hSw; (try dsimp only at hSw); go_simp; try (with_reducible rfl))
                      try simp only [Act.put, List.getElem_toArray, List.getElem_cons_succ, List.getElem_cons_zero, List.setIfInBounds_toArray, List.set_cons_zero, List.set_cons_succ]
                      refine wpAnyH_ready (rs := [22]) (by kernel_rfl) (by simp) ?_
                      refine AllReadyH.cons rfl (fun K hK => ?_) AllReadyH.nil
                      go_simp
                      refine (HC8.out _ ((hgw.tr hga1).tr hS2.1)).mono ?_
                      rintro e w3 ⟨rfl, hb3⟩
                      try go_wp2_with fail
                      refine hK.out _ _ (HALL.out _ (hS2.1.tr hb3)) (fun hS3 => ?_)
                      clear hK K
                      try simp only [Act.put, List.getElem_toArray, List.getElem_cons_succ, List.getElem_cons_zero, List.setIfInBounds_toArray, List.set_cons_zero, List.set_cons_succ]
                      refine wpAnyH_take (i := 24) (v := ?_) rfl (by kernel_rfl) (by kernel_rfl) (by kernel_rfl) (fun _ _ _ h => h) (Or.inl ⟨by rfl, ?_⟩) hS3 ?_
                      rotate_left
                      · (intro W hSw; (try dsimp only at hSw); go_simp; try (with_reducible rfl))
                      try simp only [Act.put, List.getElem_toArray, List.getElem_cons_succ, List.getElem_cons_zero, List.setIfInBounds_toArray, List.set_cons_zero, List.set_cons_succ]
                      refine wpAnyH_take (i := 25) (v := ?_) rfl (by kernel_rfl) (by kernel_rfl) (by kernel_rfl) (fun _ _ _ h => h) (Or.inl ⟨by rfl, ?_⟩) hS3 ?_
                      rotate_left
                      · (intro W hSw; (try dsimp only at hSw); go_simp; try (with_reducible rfl))
                      try simp only [Act.put, List.getElem_toArray, List.getElem_cons_succ, List.getElem_cons_zero, List.setIfInBounds_toArray, List.set_cons_zero, List.set_cons_succ]
                      refine wpAnyH_done (by kernel_rfl) ?_ _
                      go_wp2
                      go_ret
                      exact ⟨ret_bool (by rw [HR.out, ← List.length_map (f := fun r : CR => r.1), range_all_bad hlt' (by rw [HGA.out, decide_eq_true (by omega : I < (k : Int))]; rfl)]; rfl), (hgw.tr hga1).tr hS3.1⟩
                    · have hIe : I = (k : Int) := by omega
                      have hIn : (I != (k : Int)) = false := by rw [hIe]; simp
                      clear hIe
                      go_wp2_with fail
                      refine (HC1.out _).mono ?_
                      rintro e w' ⟨rfl, rfl⟩
                      go_wp2_with fail
                      refine (HC2.out _ ((hgw.tr hga1).tr (Gr.rfl' (wr.alloc (.cells #[.int .i64 x.1.root, .string x.1.mod, .bool x.1.init, .int .i64 x.1.mode, .int .i64 x.1.stamp, .int .i64 x.1.size, .int .i64 x.1.hash, .slice xa x.1.body.length xc] 29))))).mono ?_
                      rintro e v2 ⟨rfl, hb2⟩
                      have gg2 := Gr.tr (Gr.rfl' (wr.alloc (.cells #[.int .i64 x.1.root, .string x.1.mod, .bool x.1.init, .int .i64 x.1.mode, .int .i64 x.1.stamp, .int .i64 x.1.size, .int .i64 x.1.hash, .slice xa x.1.body.length xc] 29))) hb2
                      skip
                      obtain ⟨e0, e1, e2, e3, e4, e5, e6, e7⟩ := (HALL.out _ gg2).2
                      go_wp2_with fail
                      refine (HC3.out _).mono ?_
                      rintro e w' ⟨rfl, rfl⟩
                      go_wp2_with fail
                      refine (HC4.out _).mono ?_
                      rintro e w' ⟨rfl, rfl⟩
                      go_wp2_with fail
                      refine (HC5.out _ ((hgw.tr hga1).tr gg2)).mono ?_
                      rintro e v5 ⟨rfl, hb5⟩
                      have gg5 := Gr.tr gg2 hb5
                      clear e0 e1 e2 e3 e4 e5 e6 e7
                      obtain ⟨e0, e1, e2, e3, e4, e5, e6, e7⟩ := (HALL.out _ gg5).2
                      go_wp2
                      refine wp_region_held_drew (S := (fun W => Gr (wr.alloc (.cells #[.int .i64 x.1.root, .string x.1.mod, .bool x.1.init, .int .i64 x.1.mode, .int .i64 x.1.stamp, .int .i64 x.1.size, .int .i64 x.1.hash, .slice xa x.1.body.length xc] 29)) W ∧ W.cell? ⟨wr.heap.size, 0, none⟩ = some (.int .i64 x.1.root) ∧ W.cell? ⟨wr.heap.size, 1, none⟩ = some (.string x.1.mod) ∧ W.cell? ⟨wr.heap.size, 2, none⟩ = some (.bool x.1.init) ∧ W.cell? ⟨wr.heap.size, 3, none⟩ = some (.int .i64 x.1.mode) ∧ W.cell? ⟨wr.heap.size, 4, none⟩ = some (.int .i64 x.1.stamp) ∧ W.cell? ⟨wr.heap.size, 5, none⟩ = some (.int .i64 x.1.size) ∧ W.cell? ⟨wr.heap.size, 6, none⟩ = some (.int .i64 x.1.hash) ∧ W.cell? ⟨wr.heap.size, 7, none⟩ = some (.slice xa x.1.body.length xc))) (by kernel_rfl) (HALL.out _ (below_drewN gg5 1)) (fun hS0 => ?_)
                      refine wpAnyH_take (i := 0) (v := ?_) rfl (by kernel_rfl) (by kernel_rfl) (by kernel_rfl) (fun _ _ _ h => h) (Or.inl ⟨by rfl, ?_⟩) hS0 ?_
                      rotate_left
                      · (intro W hSw; (try dsimp only at hSw); go_simp; try (with_reducible rfl))
                      try simp only [Act.put, List.getElem_toArray, List.getElem_cons_succ, List.getElem_cons_zero, List.setIfInBounds_toArray, List.set_cons_zero, List.set_cons_succ]
                      refine wpAnyH_take (i := 1) (v := ?_) rfl (by kernel_rfl) (by kernel_rfl) (by kernel_rfl) (fun _ _ _ h => h) (Or.inl ⟨by rfl, ?_⟩) hS0 ?_
                      rotate_left
                      · (intro W hSw; (try dsimp only at hSw); go_simp; try (with_reducible rfl))
                      try simp only [Act.put, List.getElem_toArray, List.getElem_cons_succ, List.getElem_cons_zero, List.setIfInBounds_toArray, List.set_cons_zero, List.set_cons_succ]
                      refine wpAnyH_take (i := 2) (v := ?_) rfl (by kernel_rfl) (by kernel_rfl) (by kernel_rfl) (fun _ _ _ h => h) (Or.inl ⟨by rfl, ?_⟩) hS0 ?_
                      rotate_left
                      · (intro W hSw; (try dsimp only at hSw); go_simp; try (with_reducible rfl))
                      try simp only [Act.put, List.getElem_toArray, List.getElem_cons_succ, List.getElem_cons_zero, List.setIfInBounds_toArray, List.set_cons_zero, List.set_cons_succ]
                      refine wpAnyH_take (i := 3) (v := ?_) rfl (by kernel_rfl) (by kernel_rfl) (by kernel_rfl) (fun _ _ _ h => h) (Or.inl ⟨by rfl, ?_⟩) hS0 ?_
                      rotate_left
                      · (intro W hSw; (try dsimp only at hSw); go_simp; try (with_reducible rfl))
                      try simp only [Act.put, List.getElem_toArray, List.getElem_cons_succ, List.getElem_cons_zero, List.setIfInBounds_toArray, List.set_cons_zero, List.set_cons_succ]
                      refine wpAnyH_ready (rs := [4]) (by kernel_rfl) (by simp) ?_
                      refine AllReadyH.cons rfl (fun K hK => ?_) AllReadyH.nil
                      go_simp
                      refine (HC6.out (by simp) _ ((hgw.tr hga1).tr hS0.1)).mono ?_
                      rintro e w1 ⟨rfl, hb1⟩
                      try go_wp2_with fail
                      refine hK.out _ _ (HALL.out _ (hS0.1.tr hb1)) (fun hS1 => ?_)
                      clear hK K
                      try simp only [Act.put, List.getElem_toArray, List.getElem_cons_succ, List.getElem_cons_zero, List.setIfInBounds_toArray, List.set_cons_zero, List.set_cons_succ]
                      refine wpAnyH_take (i := 5) (v := ?_) rfl (by kernel_rfl) (by kernel_rfl) (by kernel_rfl) (fun _ _ _ h => h) (Or.inl ⟨by rfl, ?_⟩) hS1 ?_
                      rotate_left
                      · (intro W hSw; (try dsimp only at hSw); go_simp; try (with_reducible rfl))
                      try simp only [Act.put, List.getElem_toArray, List.getElem_cons_succ, List.getElem_cons_zero, List.setIfInBounds_toArray, List.set_cons_zero, List.set_cons_succ]
                      refine wpAnyH_take (i := 6) (v := ?_) rfl (by kernel_rfl) (by kernel_rfl) (by kernel_rfl) (fun _ _ _ h => h) (Or.inl ⟨by rfl, ?_⟩) hS1 ?_
                      rotate_left
                      · (intro W hSw; (try dsimp only at hSw); go_simp; try (with_reducible rfl))
                      try simp only [Act.put, List.getElem_toArray, List.getElem_cons_succ, List.getElem_cons_zero, List.setIfInBounds_toArray, List.set_cons_zero, List.set_cons_succ]
                      refine wpAnyH_take (i := 7) (v := ?_) rfl (by kernel_rfl) (by kernel_rfl) (by kernel_rfl) (fun _ _ _ h => h) (Or.inl ⟨by rfl, ?_⟩) hS1 ?_
                      rotate_left
                      · (intro W hSw; (try dsimp only at hSw); go_simp; try (with_reducible rfl))
                      try simp only [Act.put, List.getElem_toArray, List.getElem_cons_succ, List.getElem_cons_zero, List.setIfInBounds_toArray, List.set_cons_zero, List.set_cons_succ]
                      refine wpAnyH_take (i := 8) (v := ?_) rfl (by kernel_rfl) (by kernel_rfl) (by kernel_rfl) (fun _ _ _ h => h) (Or.inl ⟨by rfl, ?_⟩) hS1 ?_
                      rotate_left
                      · (intro W hSw; (try dsimp only at hSw); go_simp; try (with_reducible rfl))
                      try simp only [Act.put, List.getElem_toArray, List.getElem_cons_succ, List.getElem_cons_zero, List.setIfInBounds_toArray, List.set_cons_zero, List.set_cons_succ]
                      refine wpAnyH_take (i := 9) (v := ?_) rfl (by kernel_rfl) (by kernel_rfl) (by kernel_rfl) (fun _ _ _ h => h) (Or.inl ⟨by rfl, ?_⟩) hS1 ?_
                      rotate_left
                      · (intro W hSw; (try dsimp only at hSw); go_simp; try (with_reducible rfl))
                      try simp only [Act.put, List.getElem_toArray, List.getElem_cons_succ, List.getElem_cons_zero, List.setIfInBounds_toArray, List.set_cons_zero, List.set_cons_succ]
                      refine wpAnyH_take (i := 10) (v := ?_) rfl (by kernel_rfl) (by kernel_rfl) (by kernel_rfl) (fun _ _ _ h => h) (Or.inl ⟨by rfl, ?_⟩) hS1 ?_
                      rotate_left
                      · (intro W hSw; (try dsimp only at hSw); go_simp; try (with_reducible rfl))
                      try simp only [Act.put, List.getElem_toArray, List.getElem_cons_succ, List.getElem_cons_zero, List.setIfInBounds_toArray, List.set_cons_zero, List.set_cons_succ]
                      refine wpAnyH_ready (rs := [11]) (by kernel_rfl) (by simp) ?_
                      refine AllReadyH.cons rfl (fun K hK => ?_) AllReadyH.nil
                      go_simp
                      refine (HC7.out (by simp) _ ((hgw.tr hga1).tr hS1.1)).mono ?_
                      rintro e w2 ⟨rfl, hb2⟩
                      try go_wp2_with fail
                      refine hK.out _ _ (HALL.out _ (hS1.1.tr hb2)) (fun hS2 => ?_)
                      clear hK K
                      try simp only [Act.put, List.getElem_toArray, List.getElem_cons_succ, List.getElem_cons_zero, List.setIfInBounds_toArray, List.set_cons_zero, List.set_cons_succ]
                      refine wpAnyH_take (i := 12) (v := ?_) rfl (by kernel_rfl) (by kernel_rfl) (by kernel_rfl) (fun _ _ _ h => h) (Or.inl ⟨by rfl, ?_⟩) hS2 ?_
                      rotate_left
                      · (intro W hSw; (try dsimp only at hSw); go_simp; try (with_reducible rfl))
                      try simp only [Act.put, List.getElem_toArray, List.getElem_cons_succ, List.getElem_cons_zero, List.setIfInBounds_toArray, List.set_cons_zero, List.set_cons_succ]
                      refine wpAnyH_take (i := 13) (v := ?_) rfl (by kernel_rfl) (by kernel_rfl) (by kernel_rfl) (fun _ _ _ h => h) (Or.inl ⟨by rfl, ?_⟩) hS2 ?_
                      rotate_left
                      · (intro W hSw; (try dsimp only at hSw); go_simp; try (with_reducible rfl))
                      try simp only [Act.put, List.getElem_toArray, List.getElem_cons_succ, List.getElem_cons_zero, List.setIfInBounds_toArray, List.set_cons_zero, List.set_cons_succ]
                      refine wpAnyH_take (i := 14) (v := ?_) rfl (by kernel_rfl) (by kernel_rfl) (by kernel_rfl) (fun _ _ _ h => h) (Or.inl ⟨by rfl, ?_⟩) hS2 ?_
                      rotate_left
                      · (intro W hSw; (try dsimp only at hSw); go_simp; try (with_reducible rfl))
                      try simp only [Act.put, List.getElem_toArray, List.getElem_cons_succ, List.getElem_cons_zero, List.setIfInBounds_toArray, List.set_cons_zero, List.set_cons_succ]
                      refine wpAnyH_take (i := 15) (v := ?_) rfl (by kernel_rfl) (by kernel_rfl) (by kernel_rfl) (fun _ _ _ h => h) (Or.inl ⟨by rfl, ?_⟩) hS2 ?_
                      rotate_left
                      · (intro W hSw; (try dsimp only at hSw); go_simp; try (with_reducible rfl))
                      try simp only [Act.put, List.getElem_toArray, List.getElem_cons_succ, List.getElem_cons_zero, List.setIfInBounds_toArray, List.set_cons_zero, List.set_cons_succ]
                      refine wpAnyH_take (i := 16) (v := ?_) rfl (by kernel_rfl) (by kernel_rfl) (by kernel_rfl) (fun _ _ _ h => h) (Or.inl ⟨by rfl, ?_⟩) hS2 ?_
                      rotate_left
                      · (intro W hSw; (try dsimp only at hSw); go_simp; try (with_reducible rfl))
                      try simp only [Act.put, List.getElem_toArray, List.getElem_cons_succ, List.getElem_cons_zero, List.setIfInBounds_toArray, List.set_cons_zero, List.set_cons_succ]
                      refine wpAnyH_take (i := 17) (v := ?_) rfl (by kernel_rfl) (by kernel_rfl) (by kernel_rfl) (fun _ _ _ h => h) (Or.inl ⟨by rfl, ?_⟩) hS2 ?_
                      rotate_left
                      · (intro W hSw; (try dsimp only at hSw); go_simp; try (with_reducible rfl))
                      try simp only [Act.put, List.getElem_toArray, List.getElem_cons_succ, List.getElem_cons_zero, List.setIfInBounds_toArray, List.set_cons_zero, List.set_cons_succ]
                      refine wpAnyH_take (i := 18) (v := ?_) rfl (by kernel_rfl) (by kernel_rfl) (by kernel_rfl) (fun _ _ _ h => h) (Or.inl ⟨by rfl, ?_⟩) hS2 ?_
                      rotate_left
                      · (intro W hSw; (try dsimp only at hSw); go_simp; try (with_reducible rfl))
                      try simp only [Act.put, List.getElem_toArray, List.getElem_cons_succ, List.getElem_cons_zero, List.setIfInBounds_toArray, List.set_cons_zero, List.set_cons_succ]
                      refine wpAnyH_take (i := 19) (v := ?_) rfl (by kernel_rfl) (by kernel_rfl) (by kernel_rfl) (fun _ _ _ h => h) (Or.inl ⟨by rfl, ?_⟩) hS2 ?_
                      rotate_left
                      · (intro W hSw; (try dsimp only at hSw); go_simp; try (with_reducible rfl))
                      try simp only [Act.put, List.getElem_toArray, List.getElem_cons_succ, List.getElem_cons_zero, List.setIfInBounds_toArray, List.set_cons_zero, List.set_cons_succ]
                      refine wpAnyH_take (i := 20) (v := ?_) rfl (by kernel_rfl) (by kernel_rfl) (by kernel_rfl) (fun _ _ _ h => h) (Or.inl ⟨by rfl, ?_⟩) hS2 ?_
                      rotate_left
                      · (intro W hSw; (try dsimp only at hSw); go_simp; try (with_reducible rfl))
                      try simp only [Act.put, List.getElem_toArray, List.getElem_cons_succ, List.getElem_cons_zero, List.setIfInBounds_toArray, List.set_cons_zero, List.set_cons_succ]
                      refine wpAnyH_take (i := 21) (v := ?_) rfl (by kernel_rfl) (by kernel_rfl) (by kernel_rfl) (fun _ _ _ h => h) (Or.inl ⟨by rfl, ?_⟩) hS2 ?_
                      rotate_left
                      · (intro W hSw; (try dsimp only at hSw); go_simp; try (with_reducible rfl))
                      try simp only [Act.put, List.getElem_toArray, List.getElem_cons_succ, List.getElem_cons_zero, List.setIfInBounds_toArray, List.set_cons_zero, List.set_cons_succ]
                      refine wpAnyH_take (i := 23) (v := ?_) rfl (by kernel_rfl) (by kernel_rfl) (by kernel_rfl) (fun _ _ _ h => h) (Or.inl ⟨by rfl, ?_⟩) hS2 ?_
                      rotate_left
                      · (intro W hSw; (try dsimp only at hSw); go_simp; try (with_reducible rfl))
                      try simp only [Act.put, List.getElem_toArray, List.getElem_cons_succ, List.getElem_cons_zero, List.setIfInBounds_toArray, List.set_cons_zero, List.set_cons_succ]
                      refine wpAnyH_ready (rs := [22]) (by kernel_rfl) (by simp) ?_
                      refine AllReadyH.cons rfl (fun K hK => ?_) AllReadyH.nil
                      go_simp
                      refine (HC8.out _ ((hgw.tr hga1).tr hS2.1)).mono ?_
                      rintro e w3 ⟨rfl, hb3⟩
                      try go_wp2_with fail
                      refine hK.out _ _ (HALL.out _ (hS2.1.tr hb3)) (fun hS3 => ?_)
                      clear hK K
                      try simp only [Act.put, List.getElem_toArray, List.getElem_cons_succ, List.getElem_cons_zero, List.setIfInBounds_toArray, List.set_cons_zero, List.set_cons_succ]
                      refine wpAnyH_take (i := 24) (v := ?_) rfl (by kernel_rfl) (by kernel_rfl) (by kernel_rfl) (fun _ _ _ h => h) (Or.inl ⟨by rfl, ?_⟩) hS3 ?_
                      rotate_left
                      · (intro W hSw; (try dsimp only at hSw); go_simp; try (with_reducible rfl))
                      try simp only [Act.put, List.getElem_toArray, List.getElem_cons_succ, List.getElem_cons_zero, List.setIfInBounds_toArray, List.set_cons_zero, List.set_cons_succ]
                      refine wpAnyH_take (i := 25) (v := ?_) rfl (by kernel_rfl) (by kernel_rfl) (by kernel_rfl) (fun _ _ _ h => h) (Or.inl ⟨by rfl, ?_⟩) hS3 ?_
                      rotate_left
                      · (intro W hSw; (try dsimp only at hSw); go_simp; try (with_reducible rfl))
                      try simp only [Act.put, List.getElem_toArray, List.getElem_cons_succ, List.getElem_cons_zero, List.setIfInBounds_toArray, List.set_cons_zero, List.set_cons_succ]
                      refine wpAnyH_done (by kernel_rfl) ?_ _
                      go_wp2
                      go_roundw
                      case rel => exact ⟨k + 1, by omega, by go_num, by rw [range_all_succ, H.out, HGA.out, decide_eq_false (by omega : ¬ I < (k : Int))]; rfl, (hgw.tr hga1).tr hS3.1⟩
                      case measure => simp [intOf]; omega
                  · skip
                    go_wp2_with fail
                    refine (HC1.out _).mono ?_
                    rintro e w' ⟨rfl, rfl⟩
                    go_wp2_with fail
                    refine (HC2.out _ ((hgw.tr hga1).tr (Gr.rfl' (wr.alloc (.cells #[.int .i64 x.1.root, .string x.1.mod, .bool x.1.init, .int .i64 x.1.mode, .int .i64 x.1.stamp, .int .i64 x.1.size, .int .i64 x.1.hash, .slice xa x.1.body.length xc] 29))))).mono ?_
                    rintro e v2 ⟨rfl, hb2⟩
                    have gg2 := Gr.tr (Gr.rfl' (wr.alloc (.cells #[.int .i64 x.1.root, .string x.1.mod, .bool x.1.init, .int .i64 x.1.mode, .int .i64 x.1.stamp, .int .i64 x.1.size, .int .i64 x.1.hash, .slice xa x.1.body.length xc] 29))) hb2
                    skip
                    obtain ⟨e0, e1, e2, e3, e4, e5, e6, e7⟩ := (HALL.out _ gg2).2
                    go_wp2_with fail
                    refine (HC3.out _).mono ?_
                    rintro e w' ⟨rfl, rfl⟩
                    go_wp2_with fail
                    refine (HC4.out _).mono ?_
                    rintro e w' ⟨rfl, rfl⟩
                    go_wp2_with fail
                    refine (HC5.out _ ((hgw.tr hga1).tr gg2)).mono ?_
                    rintro e v5 ⟨rfl, hb5⟩
                    have gg5 := Gr.tr gg2 hb5
                    clear e0 e1 e2 e3 e4 e5 e6 e7
                    obtain ⟨e0, e1, e2, e3, e4, e5, e6, e7⟩ := (HALL.out _ gg5).2
                    go_wp2
                    refine wp_region_held_drew (S := (fun W => Gr (wr.alloc (.cells #[.int .i64 x.1.root, .string x.1.mod, .bool x.1.init, .int .i64 x.1.mode, .int .i64 x.1.stamp, .int .i64 x.1.size, .int .i64 x.1.hash, .slice xa x.1.body.length xc] 29)) W ∧ W.cell? ⟨wr.heap.size, 0, none⟩ = some (.int .i64 x.1.root) ∧ W.cell? ⟨wr.heap.size, 1, none⟩ = some (.string x.1.mod) ∧ W.cell? ⟨wr.heap.size, 2, none⟩ = some (.bool x.1.init) ∧ W.cell? ⟨wr.heap.size, 3, none⟩ = some (.int .i64 x.1.mode) ∧ W.cell? ⟨wr.heap.size, 4, none⟩ = some (.int .i64 x.1.stamp) ∧ W.cell? ⟨wr.heap.size, 5, none⟩ = some (.int .i64 x.1.size) ∧ W.cell? ⟨wr.heap.size, 6, none⟩ = some (.int .i64 x.1.hash) ∧ W.cell? ⟨wr.heap.size, 7, none⟩ = some (.slice xa x.1.body.length xc))) (by kernel_rfl) (HALL.out _ (below_drewN gg5 1)) (fun hS0 => ?_)
                    refine wpAnyH_take (i := 0) (v := ?_) rfl (by kernel_rfl) (by kernel_rfl) (by kernel_rfl) (fun _ _ _ h => h) (Or.inl ⟨by rfl, ?_⟩) hS0 ?_
                    rotate_left
                    · (intro W hSw; (try dsimp only at hSw); go_simp; try (with_reducible rfl))
                    try simp only [Act.put, List.getElem_toArray, List.getElem_cons_succ, List.getElem_cons_zero, List.setIfInBounds_toArray, List.set_cons_zero, List.set_cons_succ]
                    refine wpAnyH_take (i := 1) (v := ?_) rfl (by kernel_rfl) (by kernel_rfl) (by kernel_rfl) (fun _ _ _ h => h) (Or.inl ⟨by rfl, ?_⟩) hS0 ?_
                    rotate_left
                    · (intro W hSw; (try dsimp only at hSw); go_simp; try (with_reducible rfl))
                    try simp only [Act.put, List.getElem_toArray, List.getElem_cons_succ, List.getElem_cons_zero, List.setIfInBounds_toArray, List.set_cons_zero, List.set_cons_succ]
                    refine wpAnyH_take (i := 2) (v := ?_) rfl (by kernel_rfl) (by kernel_rfl) (by kernel_rfl) (fun _ _ _ h => h) (Or.inl ⟨by rfl, ?_⟩) hS0 ?_
                    rotate_left
                    · (intro W hSw; (try dsimp only at hSw); go_simp; try (with_reducible rfl))
                    try simp only [Act.put, List.getElem_toArray, List.getElem_cons_succ, List.getElem_cons_zero, List.setIfInBounds_toArray, List.set_cons_zero, List.set_cons_succ]
                    refine wpAnyH_take (i := 3) (v := ?_) rfl (by kernel_rfl) (by kernel_rfl) (by kernel_rfl) (fun _ _ _ h => h) (Or.inl ⟨by rfl, ?_⟩) hS0 ?_
                    rotate_left
                    · (intro W hSw; (try dsimp only at hSw); go_simp; try (with_reducible rfl))
                    try simp only [Act.put, List.getElem_toArray, List.getElem_cons_succ, List.getElem_cons_zero, List.setIfInBounds_toArray, List.set_cons_zero, List.set_cons_succ]
                    refine wpAnyH_ready (rs := [4]) (by kernel_rfl) (by simp) ?_
                    refine AllReadyH.cons rfl (fun K hK => ?_) AllReadyH.nil
                    go_simp
                    refine (HC6.out (by simp) _ ((hgw.tr hga1).tr hS0.1)).mono ?_
                    rintro e w1 ⟨rfl, hb1⟩
                    try go_wp2_with fail
                    refine hK.out _ _ (HALL.out _ (hS0.1.tr hb1)) (fun hS1 => ?_)
                    clear hK K
                    try simp only [Act.put, List.getElem_toArray, List.getElem_cons_succ, List.getElem_cons_zero, List.setIfInBounds_toArray, List.set_cons_zero, List.set_cons_succ]
                    refine wpAnyH_take (i := 5) (v := ?_) rfl (by kernel_rfl) (by kernel_rfl) (by kernel_rfl) (fun _ _ _ h => h) (Or.inl ⟨by rfl, ?_⟩) hS1 ?_
                    rotate_left
                    · (intro W hSw; (try dsimp only at hSw); go_simp; try (with_reducible rfl))
                    try simp only [Act.put, List.getElem_toArray, List.getElem_cons_succ, List.getElem_cons_zero, List.setIfInBounds_toArray, List.set_cons_zero, List.set_cons_succ]
                    refine wpAnyH_take (i := 6) (v := ?_) rfl (by kernel_rfl) (by kernel_rfl) (by kernel_rfl) (fun _ _ _ h => h) (Or.inl ⟨by rfl, ?_⟩) hS1 ?_
                    rotate_left
                    · (intro W hSw; (try dsimp only at hSw); go_simp; try (with_reducible rfl))
                    try simp only [Act.put, List.getElem_toArray, List.getElem_cons_succ, List.getElem_cons_zero, List.setIfInBounds_toArray, List.set_cons_zero, List.set_cons_succ]
                    refine wpAnyH_take (i := 7) (v := ?_) rfl (by kernel_rfl) (by kernel_rfl) (by kernel_rfl) (fun _ _ _ h => h) (Or.inl ⟨by rfl, ?_⟩) hS1 ?_
                    rotate_left
                    · (intro W hSw; (try dsimp only at hSw); go_simp; try (with_reducible rfl))
                    try simp only [Act.put, List.getElem_toArray, List.getElem_cons_succ, List.getElem_cons_zero, List.setIfInBounds_toArray, List.set_cons_zero, List.set_cons_succ]
                    refine wpAnyH_take (i := 8) (v := ?_) rfl (by kernel_rfl) (by kernel_rfl) (by kernel_rfl) (fun _ _ _ h => h) (Or.inl ⟨by rfl, ?_⟩) hS1 ?_
                    rotate_left
                    · (intro W hSw; (try dsimp only at hSw); go_simp; try (with_reducible rfl))
                    try simp only [Act.put, List.getElem_toArray, List.getElem_cons_succ, List.getElem_cons_zero, List.setIfInBounds_toArray, List.set_cons_zero, List.set_cons_succ]
                    refine wpAnyH_take (i := 9) (v := ?_) rfl (by kernel_rfl) (by kernel_rfl) (by kernel_rfl) (fun _ _ _ h => h) (Or.inl ⟨by rfl, ?_⟩) hS1 ?_
                    rotate_left
                    · (intro W hSw; (try dsimp only at hSw); go_simp; try (with_reducible rfl))
                    try simp only [Act.put, List.getElem_toArray, List.getElem_cons_succ, List.getElem_cons_zero, List.setIfInBounds_toArray, List.set_cons_zero, List.set_cons_succ]
                    refine wpAnyH_take (i := 10) (v := ?_) rfl (by kernel_rfl) (by kernel_rfl) (by kernel_rfl) (fun _ _ _ h => h) (Or.inl ⟨by rfl, ?_⟩) hS1 ?_
                    rotate_left
                    · (intro W hSw; (try dsimp only at hSw); go_simp; try (with_reducible rfl))
                    try simp only [Act.put, List.getElem_toArray, List.getElem_cons_succ, List.getElem_cons_zero, List.setIfInBounds_toArray, List.set_cons_zero, List.set_cons_succ]
                    refine wpAnyH_ready (rs := [11]) (by kernel_rfl) (by simp) ?_
                    refine AllReadyH.cons rfl (fun K hK => ?_) AllReadyH.nil
                    go_simp
                    refine (HC7.out (by simp) _ ((hgw.tr hga1).tr hS1.1)).mono ?_
                    rintro e w2 ⟨rfl, hb2⟩
                    try go_wp2_with fail
                    refine hK.out _ _ (HALL.out _ (hS1.1.tr hb2)) (fun hS2 => ?_)
                    clear hK K
                    try simp only [Act.put, List.getElem_toArray, List.getElem_cons_succ, List.getElem_cons_zero, List.setIfInBounds_toArray, List.set_cons_zero, List.set_cons_succ]
                    refine wpAnyH_take (i := 12) (v := ?_) rfl (by kernel_rfl) (by kernel_rfl) (by kernel_rfl) (fun _ _ _ h => h) (Or.inl ⟨by rfl, ?_⟩) hS2 ?_
                    rotate_left
                    · (intro W hSw; (try dsimp only at hSw); go_simp; try (with_reducible rfl))
                    try simp only [Act.put, List.getElem_toArray, List.getElem_cons_succ, List.getElem_cons_zero, List.setIfInBounds_toArray, List.set_cons_zero, List.set_cons_succ]
                    refine wpAnyH_take (i := 13) (v := ?_) rfl (by kernel_rfl) (by kernel_rfl) (by kernel_rfl) (fun _ _ _ h => h) (Or.inl ⟨by rfl, ?_⟩) hS2 ?_
                    rotate_left
                    · (intro W hSw; (try dsimp only at hSw); go_simp; try (with_reducible rfl))
                    try simp only [Act.put, List.getElem_toArray, List.getElem_cons_succ, List.getElem_cons_zero, List.setIfInBounds_toArray, List.set_cons_zero, List.set_cons_succ]
                    refine wpAnyH_take (i := 14) (v := ?_) rfl (by kernel_rfl) (by kernel_rfl) (by kernel_rfl) (fun _ _ _ h => h) (Or.inl ⟨by rfl, ?_⟩) hS2 ?_
                    rotate_left
                    · (intro W hSw; (try dsimp only at hSw); go_simp; try (with_reducible rfl))
                    try simp only [Act.put, List.getElem_toArray, List.getElem_cons_succ, List.getElem_cons_zero, List.setIfInBounds_toArray, List.set_cons_zero, List.set_cons_succ]
                    refine wpAnyH_take (i := 15) (v := undef) rfl (by kernel_rfl) (by kernel_rfl) (by kernel_rfl) (fun _ _ _ h => h) (Or.inr ⟨by rfl, rfl⟩) hS2 ?_
                    try simp only [Act.put, List.getElem_toArray, List.getElem_cons_succ, List.getElem_cons_zero, List.setIfInBounds_toArray, List.set_cons_zero, List.set_cons_succ]
                    refine wpAnyH_take (i := 16) (v := undef) rfl (by kernel_rfl) (by kernel_rfl) (by kernel_rfl) (fun _ _ _ h => h) (Or.inr ⟨by rfl, rfl⟩) hS2 ?_
                    try simp only [Act.put, List.getElem_toArray, List.getElem_cons_succ, List.getElem_cons_zero, List.setIfInBounds_toArray, List.set_cons_zero, List.set_cons_succ]
                    refine wpAnyH_take (i := 17) (v := undef) rfl (by kernel_rfl) (by kernel_rfl) (by kernel_rfl) (fun _ _ _ h => h) (Or.inr ⟨by rfl, rfl⟩) hS2 ?_
                    try simp only [Act.put, List.getElem_toArray, List.getElem_cons_succ, List.getElem_cons_zero, List.setIfInBounds_toArray, List.set_cons_zero, List.set_cons_succ]
                    refine wpAnyH_take (i := 18) (v := undef) rfl (by kernel_rfl) (by kernel_rfl) (by kernel_rfl) (fun _ _ _ h => h) (Or.inr ⟨by rfl, rfl⟩) hS2 ?_
                    try simp only [Act.put, List.getElem_toArray, List.getElem_cons_succ, List.getElem_cons_zero, List.setIfInBounds_toArray, List.set_cons_zero, List.set_cons_succ]
                    refine wpAnyH_take (i := 19) (v := undef) rfl (by kernel_rfl) (by kernel_rfl) (by kernel_rfl) (fun _ _ _ h => h) (Or.inr ⟨by rfl, rfl⟩) hS2 ?_
                    try simp only [Act.put, List.getElem_toArray, List.getElem_cons_succ, List.getElem_cons_zero, List.setIfInBounds_toArray, List.set_cons_zero, List.set_cons_succ]
                    refine wpAnyH_take (i := 20) (v := undef) rfl (by kernel_rfl) (by kernel_rfl) (by kernel_rfl) (fun _ _ _ h => h) (Or.inr ⟨by rfl, rfl⟩) hS2 ?_
                    try simp only [Act.put, List.getElem_toArray, List.getElem_cons_succ, List.getElem_cons_zero, List.setIfInBounds_toArray, List.set_cons_zero, List.set_cons_succ]
                    refine wpAnyH_take (i := 21) (v := undef) rfl (by kernel_rfl) (by kernel_rfl) (by kernel_rfl) (fun _ _ _ h => h) (Or.inr ⟨by rfl, rfl⟩) hS2 ?_
                    try simp only [Act.put, List.getElem_toArray, List.getElem_cons_succ, List.getElem_cons_zero, List.setIfInBounds_toArray, List.set_cons_zero, List.set_cons_succ]
                    refine wpAnyH_take (i := 23) (v := undef) rfl (by kernel_rfl) (by kernel_rfl) (by kernel_rfl) (fun _ _ _ h => h) (Or.inr ⟨by rfl, rfl⟩) hS2 ?_
                    try simp only [Act.put, List.getElem_toArray, List.getElem_cons_succ, List.getElem_cons_zero, List.setIfInBounds_toArray, List.set_cons_zero, List.set_cons_succ]
                    refine wpAnyH_take (i := 22) (v := undef) rfl (by kernel_rfl) (by kernel_rfl) (by kernel_rfl) (fun _ _ _ h => h) (Or.inr ⟨by rfl, rfl⟩) hS2 ?_
                    try simp only [Act.put, List.getElem_toArray, List.getElem_cons_succ, List.getElem_cons_zero, List.setIfInBounds_toArray, List.set_cons_zero, List.set_cons_succ]
                    refine wpAnyH_take (i := 24) (v := undef) rfl (by kernel_rfl) (by kernel_rfl) (by kernel_rfl) (fun _ _ _ h => h) (Or.inr ⟨by rfl, rfl⟩) hS2 ?_
                    try simp only [Act.put, List.getElem_toArray, List.getElem_cons_succ, List.getElem_cons_zero, List.setIfInBounds_toArray, List.set_cons_zero, List.set_cons_succ]
                    refine wpAnyH_take (i := 25) (v := ?_) rfl (by kernel_rfl) (by kernel_rfl) (by kernel_rfl) (fun _ _ _ h => h) (Or.inl ⟨by rfl, ?_⟩) hS2 ?_
                    rotate_left
                    · (intro W hSw; (try dsimp only at hSw); go_simp; try (with_reducible rfl))
                    try simp only [Act.put, List.getElem_toArray, List.getElem_cons_succ, List.getElem_cons_zero, List.setIfInBounds_toArray, List.set_cons_zero, List.set_cons_succ]
                    refine wpAnyH_done (by kernel_rfl) ?_ _
                    go_wp2
                    go_ret
                    exact ⟨ret_bool (by rw [HR.out, ← List.length_map (f := fun r : CR => r.1), range_all_bad hlt' (by rw [HGA.out]; rfl)]; rfl), (hgw.tr hga1).tr hS2.1⟩
                · skip
                  go_wp2_with fail
                  refine (HC1.out _).mono ?_
                  rintro e w' ⟨rfl, rfl⟩
                  go_wp2_with fail
                  refine (HC2.out _ ((hgw.tr hga1).tr (Gr.rfl' (wr.alloc (.cells #[.int .i64 x.1.root, .string x.1.mod, .bool x.1.init, .int .i64 x.1.mode, .int .i64 x.1.stamp, .int .i64 x.1.size, .int .i64 x.1.hash, .slice xa x.1.body.length xc] 29))))).mono ?_
                  rintro e v2 ⟨rfl, hb2⟩
                  have gg2 := Gr.tr (Gr.rfl' (wr.alloc (.cells #[.int .i64 x.1.root, .string x.1.mod, .bool x.1.init, .int .i64 x.1.mode, .int .i64 x.1.stamp, .int .i64 x.1.size, .int .i64 x.1.hash, .slice xa x.1.body.length xc] 29))) hb2
                  skip
                  obtain ⟨e0, e1, e2, e3, e4, e5, e6, e7⟩ := (HALL.out _ gg2).2
                  go_wp2_with fail
                  refine (HC3.out _).mono ?_
                  rintro e w' ⟨rfl, rfl⟩
                  go_wp2_with fail
                  refine (HC4.out _).mono ?_
                  rintro e w' ⟨rfl, rfl⟩
                  go_wp2_with fail
                  refine (HC5.out _ ((hgw.tr hga1).tr gg2)).mono ?_
                  rintro e v5 ⟨rfl, hb5⟩
                  have gg5 := Gr.tr gg2 hb5
                  clear e0 e1 e2 e3 e4 e5 e6 e7
                  obtain ⟨e0, e1, e2, e3, e4, e5, e6, e7⟩ := (HALL.out _ gg5).2
                  go_wp2
                  refine wp_region_held_drew (S := (fun W => Gr (wr.alloc (.cells #[.int .i64 x.1.root, .string x.1.mod, .bool x.1.init, .int .i64 x.1.mode, .int .i64 x.1.stamp, .int .i64 x.1.size, .int .i64 x.1.hash, .slice xa x.1.body.length xc] 29)) W ∧ W.cell? ⟨wr.heap.size, 0, none⟩ = some (.int .i64 x.1.root) ∧ W.cell? ⟨wr.heap.size, 1, none⟩ = some (.string x.1.mod) ∧ W.cell? ⟨wr.heap.size, 2, none⟩ = some (.bool x.1.init) ∧ W.cell? ⟨wr.heap.size, 3, none⟩ = some (.int .i64 x.1.mode) ∧ W.cell? ⟨wr.heap.size, 4, none⟩ = some (.int .i64 x.1.stamp) ∧ W.cell? ⟨wr.heap.size, 5, none⟩ = some (.int .i64 x.1.size) ∧ W.cell? ⟨wr.heap.size, 6, none⟩ = some (.int .i64 x.1.hash) ∧ W.cell? ⟨wr.heap.size, 7, none⟩ = some (.slice xa x.1.body.length xc))) (by kernel_rfl) (HALL.out _ (below_drewN gg5 1)) (fun hS0 => ?_)
                  refine wpAnyH_take (i := 0) (v := ?_) rfl (by kernel_rfl) (by kernel_rfl) (by kernel_rfl) (fun _ _ _ h => h) (Or.inl ⟨by rfl, ?_⟩) hS0 ?_
                  rotate_left
                  · (intro W hSw; (try dsimp only at hSw); go_simp; try (with_reducible rfl))
                  try simp only [Act.put, List.getElem_toArray, List.getElem_cons_succ, List.getElem_cons_zero, List.setIfInBounds_toArray, List.set_cons_zero, List.set_cons_succ]
                  refine wpAnyH_take (i := 1) (v := ?_) rfl (by kernel_rfl) (by kernel_rfl) (by kernel_rfl) (fun _ _ _ h => h) (Or.inl ⟨by rfl, ?_⟩) hS0 ?_
                  rotate_left
                  · (intro W hSw; (try dsimp only at hSw); go_simp; try (with_reducible rfl))
                  try simp only [Act.put, List.getElem_toArray, List.getElem_cons_succ, List.getElem_cons_zero, List.setIfInBounds_toArray, List.set_cons_zero, List.set_cons_succ]
                  refine wpAnyH_take (i := 2) (v := ?_) rfl (by kernel_rfl) (by kernel_rfl) (by kernel_rfl) (fun _ _ _ h => h) (Or.inl ⟨by rfl, ?_⟩) hS0 ?_
                  rotate_left
                  · (intro W hSw; (try dsimp only at hSw); go_simp; try (with_reducible rfl))
                  try simp only [Act.put, List.getElem_toArray, List.getElem_cons_succ, List.getElem_cons_zero, List.setIfInBounds_toArray, List.set_cons_zero, List.set_cons_succ]
                  refine wpAnyH_take (i := 3) (v := ?_) rfl (by kernel_rfl) (by kernel_rfl) (by kernel_rfl) (fun _ _ _ h => h) (Or.inl ⟨by rfl, ?_⟩) hS0 ?_
                  rotate_left
                  · (intro W hSw; (try dsimp only at hSw); go_simp; try (with_reducible rfl))
                  try simp only [Act.put, List.getElem_toArray, List.getElem_cons_succ, List.getElem_cons_zero, List.setIfInBounds_toArray, List.set_cons_zero, List.set_cons_succ]
                  refine wpAnyH_ready (rs := [4]) (by kernel_rfl) (by simp) ?_
                  refine AllReadyH.cons rfl (fun K hK => ?_) AllReadyH.nil
                  go_simp
                  refine (HC6.out (by simp) _ ((hgw.tr hga1).tr hS0.1)).mono ?_
                  rintro e w1 ⟨rfl, hb1⟩
                  try go_wp2_with fail
                  refine hK.out _ _ (HALL.out _ (hS0.1.tr hb1)) (fun hS1 => ?_)
                  clear hK K
                  try simp only [Act.put, List.getElem_toArray, List.getElem_cons_succ, List.getElem_cons_zero, List.setIfInBounds_toArray, List.set_cons_zero, List.set_cons_succ]
                  refine wpAnyH_take (i := 5) (v := ?_) rfl (by kernel_rfl) (by kernel_rfl) (by kernel_rfl) (fun _ _ _ h => h) (Or.inl ⟨by rfl, ?_⟩) hS1 ?_
                  rotate_left
                  · (intro W hSw; (try dsimp only at hSw); go_simp; try (with_reducible rfl))
                  try simp only [Act.put, List.getElem_toArray, List.getElem_cons_succ, List.getElem_cons_zero, List.setIfInBounds_toArray, List.set_cons_zero, List.set_cons_succ]
                  refine wpAnyH_take (i := 6) (v := ?_) rfl (by kernel_rfl) (by kernel_rfl) (by kernel_rfl) (fun _ _ _ h => h) (Or.inl ⟨by rfl, ?_⟩) hS1 ?_
                  rotate_left
                  · (intro W hSw; (try dsimp only at hSw); go_simp; try (with_reducible rfl))
                  try simp only [Act.put, List.getElem_toArray, List.getElem_cons_succ, List.getElem_cons_zero, List.setIfInBounds_toArray, List.set_cons_zero, List.set_cons_succ]
                  refine wpAnyH_take (i := 7) (v := undef) rfl (by kernel_rfl) (by kernel_rfl) (by kernel_rfl) (fun _ _ _ h => h) (Or.inr ⟨by rfl, rfl⟩) hS1 ?_
                  try simp only [Act.put, List.getElem_toArray, List.getElem_cons_succ, List.getElem_cons_zero, List.setIfInBounds_toArray, List.set_cons_zero, List.set_cons_succ]
                  refine wpAnyH_take (i := 8) (v := undef) rfl (by kernel_rfl) (by kernel_rfl) (by kernel_rfl) (fun _ _ _ h => h) (Or.inr ⟨by rfl, rfl⟩) hS1 ?_
                  try simp only [Act.put, List.getElem_toArray, List.getElem_cons_succ, List.getElem_cons_zero, List.setIfInBounds_toArray, List.set_cons_zero, List.set_cons_succ]
                  refine wpAnyH_take (i := 9) (v := undef) rfl (by kernel_rfl) (by kernel_rfl) (by kernel_rfl) (fun _ _ _ h => h) (Or.inr ⟨by rfl, rfl⟩) hS1 ?_
                  try simp only [Act.put, List.getElem_toArray, List.getElem_cons_succ, List.getElem_cons_zero, List.setIfInBounds_toArray, List.set_cons_zero, List.set_cons_succ]
                  refine wpAnyH_take (i := 10) (v := undef) rfl (by kernel_rfl) (by kernel_rfl) (by kernel_rfl) (fun _ _ _ h => h) (Or.inr ⟨by rfl, rfl⟩) hS1 ?_
                  try simp only [Act.put, List.getElem_toArray, List.getElem_cons_succ, List.getElem_cons_zero, List.setIfInBounds_toArray, List.set_cons_zero, List.set_cons_succ]
                  refine wpAnyH_take (i := 11) (v := undef) rfl (by kernel_rfl) (by kernel_rfl) (by kernel_rfl) (fun _ _ _ h => h) (Or.inr ⟨by rfl, rfl⟩) hS1 ?_
                  try simp only [Act.put, List.getElem_toArray, List.getElem_cons_succ, List.getElem_cons_zero, List.setIfInBounds_toArray, List.set_cons_zero, List.set_cons_succ]
                  refine wpAnyH_take (i := 12) (v := undef) rfl (by kernel_rfl) (by kernel_rfl) (by kernel_rfl) (fun _ _ _ h => h) (Or.inr ⟨by rfl, rfl⟩) hS1 ?_
                  try simp only [Act.put, List.getElem_toArray, List.getElem_cons_succ, List.getElem_cons_zero, List.setIfInBounds_toArray, List.set_cons_zero, List.set_cons_succ]
                  refine wpAnyH_take (i := 13) (v := ?_) rfl (by kernel_rfl) (by kernel_rfl) (by kernel_rfl) (fun _ _ _ h => h) (Or.inl ⟨by rfl, ?_⟩) hS1 ?_
                  rotate_left
                  · (intro W hSw; (try dsimp only at hSw); go_simp; try (with_reducible rfl))
                  try simp only [Act.put, List.getElem_toArray, List.getElem_cons_succ, List.getElem_cons_zero, List.setIfInBounds_toArray, List.set_cons_zero, List.set_cons_succ]
                  refine wpAnyH_take (i := 14) (v := ?_) rfl (by kernel_rfl) (by kernel_rfl) (by kernel_rfl) (fun _ _ _ h => h) (Or.inl ⟨by rfl, ?_⟩) hS1 ?_
                  rotate_left
                  · (intro W hSw; (try dsimp only at hSw); go_simp; try (with_reducible rfl))
                  try simp only [Act.put, List.getElem_toArray, List.getElem_cons_succ, List.getElem_cons_zero, List.setIfInBounds_toArray, List.set_cons_zero, List.set_cons_succ]
                  refine wpAnyH_take (i := 15) (v := undef) rfl (by kernel_rfl) (by kernel_rfl) (by kernel_rfl) (fun _ _ _ h => h) (Or.inr ⟨by rfl, rfl⟩) hS1 ?_
                  try simp only [Act.put, List.getElem_toArray, List.getElem_cons_succ, List.getElem_cons_zero, List.setIfInBounds_toArray, List.set_cons_zero, List.set_cons_succ]
                  refine wpAnyH_take (i := 16) (v := undef) rfl (by kernel_rfl) (by kernel_rfl) (by kernel_rfl) (fun _ _ _ h => h) (Or.inr ⟨by rfl, rfl⟩) hS1 ?_
                  try simp only [Act.put, List.getElem_toArray, List.getElem_cons_succ, List.getElem_cons_zero, List.setIfInBounds_toArray, List.set_cons_zero, List.set_cons_succ]
                  refine wpAnyH_take (i := 17) (v := undef) rfl (by kernel_rfl) (by kernel_rfl) (by kernel_rfl) (fun _ _ _ h => h) (Or.inr ⟨by rfl, rfl⟩) hS1 ?_
                  try simp only [Act.put, List.getElem_toArray, List.getElem_cons_succ, List.getElem_cons_zero, List.setIfInBounds_toArray, List.set_cons_zero, List.set_cons_succ]
                  refine wpAnyH_take (i := 18) (v := undef) rfl (by kernel_rfl) (by kernel_rfl) (by kernel_rfl) (fun _ _ _ h => h) (Or.inr ⟨by rfl, rfl⟩) hS1 ?_
                  try simp only [Act.put, List.getElem_toArray, List.getElem_cons_succ, List.getElem_cons_zero, List.setIfInBounds_toArray, List.set_cons_zero, List.set_cons_succ]
                  refine wpAnyH_take (i := 19) (v := undef) rfl (by kernel_rfl) (by kernel_rfl) (by kernel_rfl) (fun _ _ _ h => h) (Or.inr ⟨by rfl, rfl⟩) hS1 ?_
                  try simp only [Act.put, List.getElem_toArray, List.getElem_cons_succ, List.getElem_cons_zero, List.setIfInBounds_toArray, List.set_cons_zero, List.set_cons_succ]
                  refine wpAnyH_take (i := 20) (v := undef) rfl (by kernel_rfl) (by kernel_rfl) (by kernel_rfl) (fun _ _ _ h => h) (Or.inr ⟨by rfl, rfl⟩) hS1 ?_
                  try simp only [Act.put, List.getElem_toArray, List.getElem_cons_succ, List.getElem_cons_zero, List.setIfInBounds_toArray, List.set_cons_zero, List.set_cons_succ]
                  refine wpAnyH_take (i := 21) (v := undef) rfl (by kernel_rfl) (by kernel_rfl) (by kernel_rfl) (fun _ _ _ h => h) (Or.inr ⟨by rfl, rfl⟩) hS1 ?_
                  try simp only [Act.put, List.getElem_toArray, List.getElem_cons_succ, List.getElem_cons_zero, List.setIfInBounds_toArray, List.set_cons_zero, List.set_cons_succ]
                  refine wpAnyH_take (i := 23) (v := undef) rfl (by kernel_rfl) (by kernel_rfl) (by kernel_rfl) (fun _ _ _ h => h) (Or.inr ⟨by rfl, rfl⟩) hS1 ?_
                  try simp only [Act.put, List.getElem_toArray, List.getElem_cons_succ, List.getElem_cons_zero, List.setIfInBounds_toArray, List.set_cons_zero, List.set_cons_succ]
                  refine wpAnyH_take (i := 22) (v := undef) rfl (by kernel_rfl) (by kernel_rfl) (by kernel_rfl) (fun _ _ _ h => h) (Or.inr ⟨by rfl, rfl⟩) hS1 ?_
                  try simp only [Act.put, List.getElem_toArray, List.getElem_cons_succ, List.getElem_cons_zero, List.setIfInBounds_toArray, List.set_cons_zero, List.set_cons_succ]
                  refine wpAnyH_take (i := 24) (v := undef) rfl (by kernel_rfl) (by kernel_rfl) (by kernel_rfl) (fun _ _ _ h => h) (Or.inr ⟨by rfl, rfl⟩) hS1 ?_
                  try simp only [Act.put, List.getElem_toArray, List.getElem_cons_succ, List.getElem_cons_zero, List.setIfInBounds_toArray, List.set_cons_zero, List.set_cons_succ]
                  refine wpAnyH_take (i := 25) (v := ?_) rfl (by kernel_rfl) (by kernel_rfl) (by kernel_rfl) (fun _ _ _ h => h) (Or.inl ⟨by rfl, ?_⟩) hS1 ?_
                  rotate_left
                  · (intro W hSw; (try dsimp only at hSw); go_simp; try (with_reducible rfl))
                  try simp only [Act.put, List.getElem_toArray, List.getElem_cons_succ, List.getElem_cons_zero, List.setIfInBounds_toArray, List.set_cons_zero, List.set_cons_succ]
                  refine wpAnyH_done (by kernel_rfl) ?_ _
                  go_wp2
                  go_ret
                  exact ⟨ret_bool (by rw [HR.out, ← List.length_map (f := fun r : CR => r.1), range_all_bad hlt' (by rw [HGA.out]; rfl)]; rfl), (hgw.tr hga1).tr hS1.1⟩
    · have hall : (List.range L.length).all (goodC (L.map (·.1))) = true := by have := H.out; rwa [show k = L.length by omega] at this
      have hfin : R = decide ((L.length : Int) ≤ 12) := by rw [HR.out, hall, Bool.true_and]
      have HF := Lib.hid hfin
      clear hall hfin
      go_wp2
      go_ret
      exact ⟨ret_bool (by rw [HF.out]), hgw⟩
end Go.Proofs.YtbknhodjcgnfnaaDoor
