/-
  Walks: valid disks, and the stamps of directories, in both packages. Printed by diskv.py.
-/
import Derived.Test.YtepljjaienpepaaDoorDirsWZ
import Derived.Test.YtepljjaienpepaaDoorZ6
namespace Imp
open Go Go.RowKit
abbrev vDk (tv : Value) (clock : Int) (dv : Value) : Value := .agg #[tv, .int .i64 clock, dv]
def okDisk (T : List Fil) (clock : Int) (D : List Dr) : Bool := okTree T && (decide (0 ≤ clock) && decide (clock ≤ 200)) && okDirs clock 0 D
def fineD (c : Int) (d : Dr) : Bool := !decide (c < d.stamp) && !decide ((0 : Int) < (d.names.length : Int))
theorem okDirs_iff (st nm : Int) (T : List Dr) : okDirs st nm T = true ↔ (∀ f ∈ T, okDr st nm f = true) ∧ T.Pairwise (fun a b => samD b.root b.pkg a = false) ∧ T.length ≤ 20 := by
  unfold okDirs
  rw [Bool.and_eq_true, List.all_eq_true, decide_eq_true_eq]
  constructor
  · rintro ⟨h1, h2⟩
    refine ⟨fun f hf => ?_, ?_, by omega⟩
    · obtain ⟨i, hi, rfl⟩ := List.getElem_of_mem hf
      have := h1 i (List.mem_range.2 hi)
      unfold goodD at this
      rw [List.getElem?_eq_getElem hi] at this
      simp only [Bool.and_eq_true] at this
      exact this.1
    · rw [List.pairwise_iff_getElem]
      intro i j hi hj hij
      have := h1 j (List.mem_range.2 hj)
      unfold goodD at this
      rw [List.getElem?_eq_getElem hj] at this
      simp only [Bool.and_eq_true, Bool.not_eq_true', List.any_eq_false] at this
      have q := this.2 T[i] (by rw [List.mem_take_iff_getElem]; exact ⟨i, by omega, rfl⟩)
      simpa using q
  · rintro ⟨h1, h2, h3⟩
    refine ⟨fun i hi => ?_, by omega⟩
    have hi := List.mem_range.1 hi
    unfold goodD
    rw [List.getElem?_eq_getElem hi]
    simp only [Bool.and_eq_true, Bool.not_eq_true', List.any_eq_false]
    refine ⟨h1 _ (List.getElem_mem hi), fun g hg => ?_⟩
    rw [List.mem_take_iff_getElem] at hg
    obtain ⟨j, hj, rfl⟩ := hg
    rw [List.pairwise_iff_getElem] at h2
    have := h2 j i (by omega) hi (by omega)
    simp [this]
theorem okDr_split {c : Int} (h0 : 0 ≤ c) (h1 : c ≤ 200) (d : Dr) : okDr c 0 d = true ↔ fineD c d = true ∧ okDr 200 12 d = true := by
  unfold okDr fineD
  simp only [Bool.and_eq_true, Bool.not_eq_true', decide_eq_true_eq, decide_eq_false_iff_not]
  constructor
  · rintro ⟨⟨⟨⟨a1, a2⟩, a3⟩, a4, a5⟩, a6⟩
    exact ⟨⟨by omega, a6⟩, ⟨⟨⟨a1, a2⟩, a3⟩, a4, by omega⟩, by omega⟩
  · rintro ⟨⟨b1, b2⟩, ⟨⟨⟨a1, a2⟩, a3⟩, a4, a5⟩, a6⟩
    exact ⟨⟨⟨⟨a1, a2⟩, a3⟩, a4, by omega⟩, b2⟩
theorem okDisk_iff (T : List Fil) (c : Int) (D : List Dr) : okDisk T c D = true ↔ okTree T = true ∧ (0 ≤ c ∧ c ≤ 200) ∧ okDirs c 0 D = true := by
  unfold okDisk
  simp only [Bool.and_eq_true, decide_eq_true_eq]
  exact ⟨fun h => ⟨h.1.1, h.1.2, h.2⟩, fun h => ⟨⟨h.1, h.2.1⟩, h.2.2⟩⟩
theorem okDisk_spec (T : List Fil) (c : Int) (D : List Dr) : okDisk T c D = (D.all (fineD c) && (okTree T && (decide (0 ≤ c) && decide (c ≤ 200)) && okDirs 200 12 D)) := by
  rw [Bool.eq_iff_iff, okDisk_iff]
  simp only [Bool.and_eq_true, decide_eq_true_eq, List.all_eq_true]
  constructor
  · rintro ⟨h1, ⟨h2, h3⟩, h4⟩
    rw [okDirs_iff] at h4 ⊢
    exact ⟨fun d hd => ((okDr_split h2 h3 d).1 (h4.1 d hd)).1, ⟨h1, h2, h3⟩, fun d hd => ((okDr_split h2 h3 d).1 (h4.1 d hd)).2, h4.2⟩
  · rintro ⟨h0, ⟨h1, h2, h3⟩, h4⟩
    rw [okDirs_iff] at h4 ⊢
    exact ⟨h1, ⟨h2, h3⟩, fun d hd => (okDr_split h2 h3 d).2 ⟨h0 d hd, h4.1 d hd⟩, h4.2⟩
def stampP (D : List Dr) (root : Int) (p : ByteArray) : Int := match D[(ix (samD root p) D).toNat]? with
  | some d => if ix (samD root p) D < 0 then 0 else d.stamp
  | none => 0
def fStamp (T : List Fil) (c : Int) (D : List Dr) (root : Int) (p : ByteArray) : Int := if okDisk T c D && (decide (0 ≤ root) && decide (root ≤ 2)) && vPkg (bs p) then stampP D root p else -1
theorem ixFrom_map {α β : Type} (f : α → β) (p : β → Bool) : ∀ (L : List α) (n : Nat), ixFrom p (L.map f) n = ixFrom (fun x => p (f x)) L n
  | [], _ => rfl
  | x :: t, n => by rw [List.map_cons, ixFrom, ixFrom, ixFrom_map f p t]
theorem ix_map {α β : Type} (f : α → β) (p : β → Bool) (L : List α) : ix p (L.map f) = ix (fun x => p (f x)) L := ixFrom_map f p L 0
theorem all_bad {α β : Type} {f : β → Bool} {L : List (β × α)} {k : Nat} (h : k < L.length) (hf : f L[k].1 = false) : (L.map (·.1)).all f = false := by
  rw [List.all_eq_false]
  exact ⟨L[k].1, List.mem_map_of_mem (List.getElem_mem h), by rw [hf]; decide⟩
theorem stampP_none {D : List DR} {root : Int} {p : ByteArray} (h : ix (fun r : DR => samD root p r.1) D < 0) : stampP (D.map (·.1)) root p = 0 := by
  unfold stampP
  rw [ix_map]
  split
  · rw [if_pos h]
  · rfl
theorem stampP_at {D : List DR} {root : Int} {p : ByteArray} {k : Nat} (h : ix (fun r : DR => samD root p r.1) D = (k : Int)) (hk : k < D.length) : stampP (D.map (·.1)) root p = D[k].1.stamp := by
  unfold stampP
  rw [ix_map, h]
  have e : (D.map (·.1))[((k : Nat) : Int).toNat]? = some D[k].1 := by
    rw [Int.toNat_natCast, List.getElem?_map, List.getElem?_eq_getElem hk]; rfl
  rw [e]
  show (if ((k : Nat) : Int) < 0 then (0 : Int) else D[k].1.stamp) = _
  rw [if_neg (by omega)]
end Imp
namespace Go.Proofs.YtepljjaienpepaaDoor
open Go Go.RowKit Imp
set_option linter.unusedVariables false
set_option linter.unusedSimpArgs false
set_option maxHeartbeats 3200000 in
theorem svalidDisk_any {lo hi : Nat} (tv dv : Value) (T : List FR) (clock : Int) (D : List DR) (w : World) (hok : OkW w) (ht : FlR w lo hi tv T) (hd : DsR w lo hi dv D) (hhi : hi ≤ w.heap.size) (hsm : ∀ r ∈ T, SmF r) (hsd : ∀ r ∈ D, SmD r) :
    Calls Tryd.prog 18 #[vDk tv clock dv] w fun e w' => e = .returned (.bool (okDisk (T.map (·.1)) clock (D.map (·.1)))) ∧ Gr w w' := by
  obtain ⟨ta, tc, rfl, _, _⟩ := ht.1.form
  have hd0 := hd
  obtain ⟨⟨da, dc, rfl, hl1, hl2, hl3⟩, hdn⟩ := hd
  unfold maxLen at hl2
  have hA := heap_alloc_new w (.cells #[.slice ta T.length tc, .int .i64 clock, .slice da D.length dc] 28)
  have hgA := gr_al w (.cells #[.slice ta T.length tc, .int .i64 clock, .slice da D.length dc] 28)
  have hT := fun W (h : Gr (w.alloc (.cells #[.slice ta T.length tc, .int .i64 clock, .slice da D.length dc] 28)) W) => svalidTree_any _ T W (hok.gr (hgA.tr h)) (ht.below (hgA.tr h) hhi) (Nat.le_trans hhi (hgA.tr h).size) hsm
  have hD := fun W (h : Gr (w.alloc (.cells #[.slice ta T.length tc, .int .i64 clock, .slice da D.length dc] 28)) W) => svalidDirs_any _ D W (hok.gr (hgA.tr h)) (hd0.below (hgA.tr h) hhi) (Nat.le_trans hhi (hgA.tr h).size) hsd
  have hc1 := fun W => inRange_any clock 0 200 W
  obtain ⟨B1, hB1⟩ : ∃ B, okTree (T.map (·.1)) = B := ⟨_, rfl⟩
  obtain ⟨B2, hB2⟩ : ∃ B, (decide (0 ≤ clock) && decide (clock ≤ 200)) = B := ⟨_, rfl⟩
  obtain ⟨B3, hB3⟩ : ∃ B, okDirs 200 12 (D.map (·.1)) = B := ⟨_, rfl⟩
  obtain ⟨R, hR⟩ : ∃ R, okDisk (T.map (·.1)) clock (D.map (·.1)) = R := ⟨_, rfl⟩
  rw [hR]

  rw [okDisk_spec, hB1, hB2, hB3] at hR
  simp only [hB1] at hT
  simp only [hB2] at hc1
  simp only [hB3] at hD
  have HT := Lib.hid hT
  have HD := Lib.hid hD
  have HC := Lib.hid hc1
  have HR := Lib.hid hR
  have HA := Lib.hid hA
  clear hT hD hc1 hR hB1 hB2 hB3
  obtain ⟨⟨x0, x1, x2⟩, _⟩ := rows3 hA
  clear hA
  go_enter Tryd.func18, Tryd.ntmps18
  go_wp2
  go_loopw [3] (fun i wr => ∃ k : Nat, k ≤ D.length ∧ i = .int .i64 k ∧ (D.take k).all (fun r => fineD clock r.1) = true ∧ Gr (w.alloc (.cells #[.slice ta T.length tc, .int .i64 clock, .slice da D.length dc] 28)) wr) (fun i _ => D.length - (intOf i).toNat)
  case atStart => exact ⟨0, Nat.zero_le _, rfl, by simp, Gr.rfl' _⟩
  case round =>
    obtain ⟨k, hk, rfl, hall, hgw⟩ := hrel
    have HALL := Lib.hid hall
    clear hall x0 x1 x2
    obtain ⟨⟨x0, x1, x2⟩, _⟩ := rows3 ((hgw.block w.heap.size (by simp)).trans HA.out)
    by_cases hlt : k < D.length
    · obtain ⟨b, o, rfl, hbb, hc⟩ := hl3 k hlt
      obtain ⟨x, hx⟩ : ∃ x, x = D[k] := ⟨_, rfl⟩
      have hxm : x ∈ D := by rw [hx]; exact List.getElem_mem hlt
      obtain ⟨xa, xc, hxv, _, _⟩ := (hdn x hxm).form
      have hkw : IntKind.i64.wrap ((k : Int) + 1) = (k : Int) + 1 := IntWalk.i64_in _ (by omega)
      have cc := fun W (h : Gr w W) => cells_dir (w := W) (b := b) (o := o) (k := k) (x := x) (fun j u hu => (h.cell (p := ⟨b, o + k * 4 + j, none⟩) (Nat.lt_of_lt_of_le hbb.2 hhi)).trans (hc j u (by rw [← hx]; exact hu)))
      rw [hxv] at cc
      obtain ⟨c0, c1, c2, c3⟩ := cc _ (hgA.tr hgw)
      have hki : (k : Int) < (D.length : Int) := by omega
      have hfd : fineD clock x.1 = (!decide (clock < x.1.stamp) && !decide ((0 : Int) < (x.1.names.length : Int))) := rfl
      have HX := Lib.hid hx
      have HFD := Lib.hid hfd
      obtain ⟨N, hN⟩ : ∃ N, N = x.1.names.length := ⟨_, rfl⟩
      rw [← hN] at c3
      have HN := Lib.hid hN
      clear hc hl3 hx hfd cc hxv hN hd0 hdn HD HT
      by_cases hs1 : clock < x.1.stamp
      · have hd1 : decide (clock < x.1.stamp) = true := decide_eq_true hs1
        go_wp2
        go_quiet (fail)
        go_wp2
        go_ret
        exact ⟨ret_bool (by rw [← HR.out]; rw [all_bad (f := fineD clock) (hlt) (by rw [← HX.out, HFD.out, hd1]; rfl)]; rfl), hgA.tr (below_drewN hgw _)⟩
      · have hd1 : decide (clock < x.1.stamp) = false := decide_eq_false hs1
        by_cases hs2 : (0 : Int) < (N : Int)
        · have hd2 : decide ((0 : Int) < (N : Int)) = true := decide_eq_true hs2
          go_wp2
          go_quiet (fail)
          go_wp2
          go_ret
          exact ⟨ret_bool (by rw [← HR.out]; rw [all_bad (f := fineD clock) (hlt) (by rw [← HX.out, HFD.out, hd1, ← HN.out, hd2]; rfl)]; rfl), hgA.tr (below_drewN hgw _)⟩
        · have hd2 : decide ((0 : Int) < (N : Int)) = false := decide_eq_false hs2
          go_wp2
          go_quiet (fail)
          go_wp2
          go_roundw
          case rel => exact ⟨k + 1, by omega, by go_num, by rw [List.take_succ_eq_append_getElem hlt, List.all_append, HALL.out, List.all_cons, List.all_nil, ← HX.out, HFD.out, hd1, ← HN.out, hd2]; rfl, below_drewN hgw _⟩
          case measure => simp [intOf]; omega
    · have hall : (D.map (·.1)).all (fineD clock) = true := by
        have := HALL.out
        rw [List.take_of_length_le (by omega)] at this
        rw [List.all_map]; exact this
      have hR2 := HR.out
      rw [hall, Bool.true_and] at hR2
      have HR2 := Lib.hid hR2
      clear hall hR2 hd0 hl3 hdn
      go_wp2_with fail
      refine (HT.out _ hgw).mono ?_
      rintro e w2 ⟨rfl, hb2⟩
      clear x0 x1 x2
      obtain ⟨⟨x0, x1, x2⟩, _⟩ := rows3 (((hgw.tr hb2).block w.heap.size (by simp)).trans HA.out)
      cases B1
      · go_wp2
        go_ret
        exact ⟨ret_bool (by rw [← HR2.out]; rfl), (hgA.tr hgw).tr hb2⟩
      · go_wp2_with fail
        refine (HC.out _).mono ?_
        rintro e w' ⟨rfl, rfl⟩
        cases B2
        · go_wp2
          go_ret
          exact ⟨ret_bool (by rw [← HR2.out]; rfl), (hgA.tr hgw).tr hb2⟩
        · go_wp2_with fail
          refine (HD.out _ (hgw.tr hb2)).mono ?_
          rintro e w3 ⟨rfl, hb3⟩
          go_wp2
          go_ret
          exact ⟨ret_bool (by rw [← HR2.out]; rfl), ((hgA.tr hgw).tr hb2).tr hb3⟩
theorem sValidDisk_any {lo hi : Nat} (tv dv : Value) (T : List FR) (clock : Int) (D : List DR) (w : World) (hok : OkW w) (ht : FlR w lo hi tv T) (hd : DsR w lo hi dv D) (hhi : hi ≤ w.heap.size) (hsm : ∀ r ∈ T, SmF r) (hsd : ∀ r ∈ D, SmD r) :
    Calls Tryd.prog 10 #[vDk tv clock dv] w fun e w' => e = .returned (.bool (okDisk (T.map (·.1)) clock (D.map (·.1)))) ∧ Gr w w' := by
  obtain ⟨ta, tc, rfl, _, _⟩ := ht.1.form
  obtain ⟨da, dc, rfl, _, _⟩ := hd.1.form
  have h := fun o => svalidDisk_any _ _ T clock D (w.alloc o) (hok.gr (gr_al w o)) (ht.below (gr_al w o) hhi) (hd.below (gr_al w o) hhi) (Nat.le_trans hhi (gr_al w o).size) hsm hsd
  generalize okDisk (T.map (·.1)) clock (D.map (·.1)) = R at h
  have H := Lib.hid h
  clear h
  go_enter Tryd.func10, Tryd.ntmps10
  go_wp2_with fail
  refine (H.out _).mono ?_
  rintro e w1 ⟨rfl, hb1⟩
  go_wp2
  go_ret
  exact ⟨rfl, (gr_al w _).tr hb1⟩
set_option maxHeartbeats 3200000 in
theorem iValidDisk_any {lo hi : Nat} (tv dv : Value) (T : List FR) (clock : Int) (D : List DR) (w : World) (hok : OkW w) (ht : FlR w lo hi tv T) (hd : DsR w lo hi dv D) (hhi : hi ≤ w.heap.size) (hsm : ∀ r ∈ T, SmF r) (hsd : ∀ r ∈ D, SmD r) :
    Calls Tryd.prog 9 #[vDk tv clock dv] w fun e w' => e = .returned (.bool (okDisk (T.map (·.1)) clock (D.map (·.1)))) ∧ Gr w w' := by
  obtain ⟨ta, tc, rfl, _, _⟩ := ht.1.form
  obtain ⟨da, dc, rfl, _, _⟩ := hd.1.form
  have hd0 := hd
  have hA := heap_alloc_new w (.cells #[.slice ta T.length tc, .int .i64 clock, .slice da D.length dc] 28)
  have hgA := gr_al w (.cells #[.slice ta T.length tc, .int .i64 clock, .slice da D.length dc] 28)
  have hT := fun W (h : Gr (w.alloc (.cells #[.slice ta T.length tc, .int .i64 clock, .slice da D.length dc] 28)) W) => iValidTree_any _ T W (hok.gr (hgA.tr h)) (ht.below (hgA.tr h) hhi) (Nat.le_trans hhi (hgA.tr h).size) hsm
  have hD := fun W (h : Gr (w.alloc (.cells #[.slice ta T.length tc, .int .i64 clock, .slice da D.length dc] 28)) W) => idirsOk_any _ D clock 0 W (hok.gr (hgA.tr h)) (hd0.below (hgA.tr h) hhi) (Nat.le_trans hhi (hgA.tr h).size) hsd
  have hc1 := fun W => within_any clock 0 200 W
  obtain ⟨B1, hB1⟩ : ∃ B, okTree (T.map (·.1)) = B := ⟨_, rfl⟩
  obtain ⟨B2, hB2⟩ : ∃ B, (decide (0 ≤ clock) && decide (clock ≤ 200)) = B := ⟨_, rfl⟩
  obtain ⟨B3, hB3⟩ : ∃ B, okDirs clock 0 (D.map (·.1)) = B := ⟨_, rfl⟩
  obtain ⟨R, hR⟩ : ∃ R, okDisk (T.map (·.1)) clock (D.map (·.1)) = R := ⟨_, rfl⟩
  rw [hR]

  unfold okDisk at hR
  rw [hB1, hB2, hB3] at hR
  simp only [hB1] at hT
  simp only [hB2] at hc1
  simp only [hB3] at hD
  have HT := Lib.hid hT
  have HD := Lib.hid hD
  have HC := Lib.hid hc1
  have HR := Lib.hid hR
  have HA := Lib.hid hA
  clear hT hD hc1 hR hB1 hB2 hB3
  obtain ⟨⟨x0, x1, x2⟩, _⟩ := rows3 hA
  clear hA
  go_enter Tryd.func9, Tryd.ntmps9
  go_wp2_with fail
  refine (HT.out _ (Gr.rfl' _)).mono ?_
  rintro e w2 ⟨rfl, hb2⟩
  clear x0 x1 x2
  obtain ⟨⟨x0, x1, x2⟩, _⟩ := rows3 ((hb2.block w.heap.size (by simp)).trans HA.out)
  cases B1
  · go_wp2
    go_ret
    exact ⟨ret_bool (by rw [← HR.out]; rfl), hgA.tr hb2⟩
  · go_wp2_with fail
    refine (HC.out _).mono ?_
    rintro e w' ⟨rfl, rfl⟩
    cases B2
    · go_wp2
      go_ret
      exact ⟨ret_bool (by rw [← HR.out]; rfl), hgA.tr hb2⟩
    · go_wp2_with fail
      refine (HD.out _ hb2).mono ?_
      rintro e w3 ⟨rfl, hb3⟩
      go_wp2
      go_ret
      exact ⟨ret_bool (by rw [← HR.out]; rfl), (hgA.tr hb2).tr hb3⟩
set_option maxHeartbeats 1600000 in
theorem sstampOf_any {lo hi : Nat} (tv dv : Value) (T : List FR) (clock : Int) (D : List DR) (root : Int) (p : ByteArray) (w : World) (ht : FlR w lo hi tv T) (hd : DsR w lo hi dv D) (hhi : hi ≤ w.heap.size) :
    Calls Tryd.prog 21 #[vDk tv clock dv, .int .i64 root, .string p] w fun e w' => e = .returned (.int .i64 (stampP (D.map (·.1)) root p)) ∧ Gr w w' := by
  obtain ⟨ta, tc, rfl, _, _⟩ := ht.1.form
  have hd0 := hd
  obtain ⟨⟨da, dc, rfl, hl1, hl2, hl3⟩, hdn⟩ := hd
  unfold maxLen at hl2
  have hA := heap_alloc_new w (.cells #[.slice ta T.length tc, .int .i64 clock, .slice da D.length dc] 28)
  have hgA := gr_al w (.cells #[.slice ta T.length tc, .int .i64 clock, .slice da D.length dc] 28)
  have h1 := fun W (h : Gr w W) => sdirAt_any _ D root p W (hd0.1.below h hhi) (Nat.le_trans hhi h.size)
  obtain ⟨K, hK⟩ : ∃ K, ix (fun r : DR => samD root p r.1) D = K := ⟨_, rfl⟩
  simp only [hK] at h1
  have HK := Lib.hid hK
  obtain ⟨R, hR⟩ : ∃ R, stampP (D.map (·.1)) root p = R := ⟨_, rfl⟩
  rw [hR]
  have HR := Lib.hid hR
  have H1 := Lib.hid h1
  have HA := Lib.hid hA
  obtain ⟨⟨x0, x1, x2⟩, _⟩ := rows3 hA
  clear h1 hK hR hA
  go_enter Tryd.func21, Tryd.ntmps21
  go_wp2_with fail
  refine (H1.out _ hgA).mono ?_
  rintro e w2 ⟨rfl, hb2⟩
  clear x0 x1 x2
  obtain ⟨⟨x0, x1, x2⟩, _⟩ := rows3 ((hb2.block w.heap.size (by simp)).trans HA.out)
  rcases ix_range (fun r : DR => samD root p r.1) D with ⟨_, hr1, hr2⟩ | ⟨_, hr1⟩
  · rw [HK.out] at hr1 hr2
    obtain ⟨k, rfl⟩ : ∃ k : Nat, K = k := ⟨K.toNat, by omega⟩
    have hlt : k < D.length := by omega
    have hneg : decide ((k : Int) < 0) = false := decide_eq_false (by omega)
    obtain ⟨b, o, rfl, hbb, hc⟩ := hl3 k hlt
    obtain ⟨x, hx⟩ : ∃ x, x = D[k] := ⟨_, rfl⟩
    obtain ⟨c0, c1, c2, c3⟩ := cells_dir (w := w2) (b := b) (o := o) (k := k) (x := x) (fun j u hu => ((hgA.tr hb2).cell (p := ⟨b, o + k * 4 + j, none⟩) (Nat.lt_of_lt_of_le hbb.2 hhi)).trans (hc j u (by rw [← hx]; exact hu)))
    have hs : R = x.1.stamp := by rw [← HR.out, stampP_at HK.out hlt, hx]
    have HS := Lib.hid hs
    clear hs hx hc hl3 hd0 hdn c0 c1 c3
    go_wp2
    go_ret
    exact ⟨ret_i (by rw [HS.out]), hgA.tr hb2⟩
  · rw [HK.out] at hr1
    have hneg : decide (K < 0) = true := decide_eq_true (by omega)
    have hs : R = 0 := by rw [← HR.out, stampP_none (by rw [HK.out]; omega)]
    have HS := Lib.hid hs
    clear hs hl3 hd0 hdn
    go_wp2
    go_ret
    exact ⟨ret_i (by rw [HS.out]), hgA.tr hb2⟩
set_option maxHeartbeats 1600000 in
theorem istampOf_any {lo hi : Nat} (tv dv : Value) (T : List FR) (clock : Int) (D : List DR) (root : Int) (p : ByteArray) (w : World) (ht : FlR w lo hi tv T) (hd : DsR w lo hi dv D) (hhi : hi ≤ w.heap.size) :
    Calls Tryd.prog 17 #[vDk tv clock dv, .int .i64 root, .string p] w fun e w' => e = .returned (.int .i64 (stampP (D.map (·.1)) root p)) ∧ Gr w w' := by
  obtain ⟨ta, tc, rfl, _, _⟩ := ht.1.form
  have hd0 := hd
  obtain ⟨⟨da, dc, rfl, hl1, hl2, hl3⟩, hdn⟩ := hd
  unfold maxLen at hl2
  have hA := heap_alloc_new w (.cells #[.slice ta T.length tc, .int .i64 clock, .slice da D.length dc] 28)
  have hgA := gr_al w (.cells #[.slice ta T.length tc, .int .i64 clock, .slice da D.length dc] 28)
  have h1 := fun W (h : Gr w W) => idirAt_any _ D root p W (hd0.1.below h hhi) (Nat.le_trans hhi h.size) (fun r hr => SlR.below (hd0.2 r hr) h hhi)
  obtain ⟨K, hK⟩ : ∃ K, ix (fun r : DR => samD root p r.1) D = K := ⟨_, rfl⟩
  simp only [hK] at h1
  have HK := Lib.hid hK
  obtain ⟨R, hR⟩ : ∃ R, stampP (D.map (·.1)) root p = R := ⟨_, rfl⟩
  rw [hR]
  have HR := Lib.hid hR
  have H1 := Lib.hid h1
  have HA := Lib.hid hA
  obtain ⟨⟨x0, x1, x2⟩, _⟩ := rows3 hA
  clear h1 hK hR hA
  go_enter Tryd.func17, Tryd.ntmps17
  go_wp2_with fail
  refine (H1.out _ hgA).mono ?_
  rintro e w2 ⟨rfl, hb2⟩
  clear x0 x1 x2
  obtain ⟨⟨x0, x1, x2⟩, _⟩ := rows3 ((hb2.block w.heap.size (by simp)).trans HA.out)
  rcases ix_range (fun r : DR => samD root p r.1) D with ⟨_, hr1, hr2⟩ | ⟨_, hr1⟩
  · rw [HK.out] at hr1 hr2
    obtain ⟨k, rfl⟩ : ∃ k : Nat, K = k := ⟨K.toNat, by omega⟩
    have hlt : k < D.length := by omega
    have hneg : decide ((k : Int) < 0) = false := decide_eq_false (by omega)
    obtain ⟨b, o, rfl, hbb, hc⟩ := hl3 k hlt
    obtain ⟨x, hx⟩ : ∃ x, x = D[k] := ⟨_, rfl⟩
    obtain ⟨c0, c1, c2, c3⟩ := cells_dir (w := w2) (b := b) (o := o) (k := k) (x := x) (fun j u hu => ((hgA.tr hb2).cell (p := ⟨b, o + k * 4 + j, none⟩) (Nat.lt_of_lt_of_le hbb.2 hhi)).trans (hc j u (by rw [← hx]; exact hu)))
    have hs : R = x.1.stamp := by rw [← HR.out, stampP_at HK.out hlt, hx]
    have HS := Lib.hid hs
    clear hs hx hc hl3 hd0 hdn c0 c1 c3
    go_wp2
    go_ret
    exact ⟨ret_i (by rw [HS.out]), hgA.tr hb2⟩
  · rw [HK.out] at hr1
    have hneg : decide (K < 0) = true := decide_eq_true (by omega)
    have hs : R = 0 := by rw [← HR.out, stampP_none (by rw [HK.out]; omega)]
    have HS := Lib.hid hs
    clear hs hl3 hd0 hdn
    go_wp2
    go_ret
    exact ⟨ret_i (by rw [HS.out]), hgA.tr hb2⟩
set_option maxHeartbeats 1600000 in
theorem sStampOf_any {lo hi : Nat} (tv dv : Value) (T : List FR) (clock : Int) (D : List DR) (root : Int) (p : ByteArray) (w : World) (hok : OkW w) (ht : FlR w lo hi tv T) (hd : DsR w lo hi dv D) (hhi : hi ≤ w.heap.size) (hsm : ∀ r ∈ T, SmF r) (hsd : ∀ r ∈ D, SmD r) (hp : p.size ≤ 16777216) :
    Calls Tryd.prog 7 #[vDk tv clock dv, .int .i64 root, .string p] w fun e w' => e = .returned (.int .i64 (fStamp (T.map (·.1)) clock (D.map (·.1)) root p)) ∧ Gr w w' := by
  obtain ⟨ta, tc, rfl, _, _⟩ := ht.1.form
  obtain ⟨da, dc, rfl, _, _⟩ := hd.1.form
  have hA := heap_alloc_new w (.cells #[.slice ta T.length tc, .int .i64 clock, .slice da D.length dc] 28)
  have hgA := gr_al w (.cells #[.slice ta T.length tc, .int .i64 clock, .slice da D.length dc] 28)
  have h1 := fun W (h : Gr w W) => svalidDisk_any _ _ T clock D W (hok.gr h) (ht.below h hhi) (hd.below h hhi) (Nat.le_trans hhi h.size) hsm hsd
  have h2 := fun W => inRange_any root 0 2 W
  have h3 := fun W (h : Gr w W) => svalidPackage_any p W hp
  have h4 := fun W (h : Gr w W) => sstampOf_any _ _ T clock D root p W (ht.below h hhi) (hd.below h hhi) (Nat.le_trans hhi h.size)
  obtain ⟨R, hR⟩ : ∃ R, fStamp (T.map (·.1)) clock (D.map (·.1)) root p = R := ⟨_, rfl⟩
  rw [hR]
  obtain ⟨B1, hB1⟩ : ∃ B, okDisk (T.map (·.1)) clock (D.map (·.1)) = B := ⟨_, rfl⟩
  obtain ⟨B2, hB2⟩ : ∃ B, (decide (0 ≤ root) && decide (root ≤ 2)) = B := ⟨_, rfl⟩
  obtain ⟨B3, hB3⟩ : ∃ B, vPkg (bs p) = B := ⟨_, rfl⟩
  obtain ⟨Q, hQ⟩ : ∃ Q, stampP (D.map (·.1)) root p = Q := ⟨_, rfl⟩
  unfold fStamp at hR
  rw [hB1, hB2, hB3, hQ] at hR
  simp only [hB1] at h1
  simp only [hB2] at h2
  simp only [hB3] at h3
  simp only [hQ] at h4
  have H1 := Lib.hid h1
  have H2 := Lib.hid h2
  have H3 := Lib.hid h3
  have H4 := Lib.hid h4
  have HR := Lib.hid hR
  have HA := Lib.hid hA
  obtain ⟨⟨x0, x1, x2⟩, _⟩ := rows3 hA
  clear h1 h2 h3 h4 hR hB1 hB2 hB3 hQ hA
  go_enter Tryd.func7, Tryd.ntmps7
  go_wp2_with fail
  refine (H1.out _ hgA).mono ?_
  rintro e w2 ⟨rfl, hb2⟩
  clear x0 x1 x2
  cases B1
  · go_wp2
    go_ret
    exact ⟨ret_i (by rw [← HR.out]; rfl), hgA.tr hb2⟩
  · go_wp2_with fail
    refine (H2.out _).mono ?_
    rintro e w' ⟨rfl, rfl⟩
    cases B2
    · go_wp2
      go_ret
      exact ⟨ret_i (by rw [← HR.out]; rfl), hgA.tr hb2⟩
    · go_wp2_with fail
      refine (H3.out _ (hgA.tr hb2)).mono ?_
      rintro e w3 ⟨rfl, hb3⟩
      have hb3' : Gr w2 w3 := hb3
      obtain ⟨⟨x0, x1, x2⟩, _⟩ := rows3 (((hb2.tr hb3').block w.heap.size (by simp)).trans HA.out)
      cases B3
      · go_wp2
        go_ret
        exact ⟨ret_i (by rw [← HR.out]; rfl), (hgA.tr hb2).tr hb3'⟩
      · go_wp2_with fail
        refine (H4.out _ ((hgA.tr hb2).tr hb3')).mono ?_
        rintro e w4 ⟨rfl, hb4⟩
        go_wp2
        go_ret
        exact ⟨ret_i (by rw [← HR.out]; rfl), ((hgA.tr hb2).tr hb3').tr hb4⟩
set_option maxHeartbeats 1600000 in
theorem iStampOf_any {lo hi : Nat} (tv dv : Value) (T : List FR) (clock : Int) (D : List DR) (root : Int) (p : ByteArray) (w : World) (hok : OkW w) (ht : FlR w lo hi tv T) (hd : DsR w lo hi dv D) (hhi : hi ≤ w.heap.size) (hsm : ∀ r ∈ T, SmF r) (hsd : ∀ r ∈ D, SmD r) (hp : p.size ≤ 16777216) :
    Calls Tryd.prog 6 #[vDk tv clock dv, .int .i64 root, .string p] w fun e w' => e = .returned (.int .i64 (fStamp (T.map (·.1)) clock (D.map (·.1)) root p)) ∧ Gr w w' := by
  obtain ⟨ta, tc, rfl, _, _⟩ := ht.1.form
  obtain ⟨da, dc, rfl, _, _⟩ := hd.1.form
  have hA := heap_alloc_new w (.cells #[.slice ta T.length tc, .int .i64 clock, .slice da D.length dc] 28)
  have hgA := gr_al w (.cells #[.slice ta T.length tc, .int .i64 clock, .slice da D.length dc] 28)
  have h1 := fun W (h : Gr w W) => iValidDisk_any _ _ T clock D W (hok.gr h) (ht.below h hhi) (hd.below h hhi) (Nat.le_trans hhi h.size) hsm hsd
  have h2 := fun W => within_any root 0 2 W
  have h3 := fun W (h : Gr w W) => ipackageOk_any p W hp (hok.gr h)
  have h4 := fun W (h : Gr w W) => istampOf_any _ _ T clock D root p W (ht.below h hhi) (hd.below h hhi) (Nat.le_trans hhi h.size)
  obtain ⟨R, hR⟩ : ∃ R, fStamp (T.map (·.1)) clock (D.map (·.1)) root p = R := ⟨_, rfl⟩
  rw [hR]
  obtain ⟨B1, hB1⟩ : ∃ B, okDisk (T.map (·.1)) clock (D.map (·.1)) = B := ⟨_, rfl⟩
  obtain ⟨B2, hB2⟩ : ∃ B, (decide (0 ≤ root) && decide (root ≤ 2)) = B := ⟨_, rfl⟩
  obtain ⟨B3, hB3⟩ : ∃ B, vPkg (bs p) = B := ⟨_, rfl⟩
  obtain ⟨Q, hQ⟩ : ∃ Q, stampP (D.map (·.1)) root p = Q := ⟨_, rfl⟩
  unfold fStamp at hR
  rw [hB1, hB2, hB3, hQ] at hR
  simp only [hB1] at h1
  simp only [hB2] at h2
  simp only [hB3] at h3
  simp only [hQ] at h4
  have H1 := Lib.hid h1
  have H2 := Lib.hid h2
  have H3 := Lib.hid h3
  have H4 := Lib.hid h4
  have HR := Lib.hid hR
  have HA := Lib.hid hA
  obtain ⟨⟨x0, x1, x2⟩, _⟩ := rows3 hA
  clear h1 h2 h3 h4 hR hB1 hB2 hB3 hQ hA
  go_enter Tryd.func6, Tryd.ntmps6
  go_wp2_with fail
  refine (H1.out _ hgA).mono ?_
  rintro e w2 ⟨rfl, hb2⟩
  clear x0 x1 x2
  cases B1
  · go_wp2
    go_ret
    exact ⟨ret_i (by rw [← HR.out]; rfl), hgA.tr hb2⟩
  · go_wp2_with fail
    refine (H2.out _).mono ?_
    rintro e w' ⟨rfl, rfl⟩
    cases B2
    · go_wp2
      go_ret
      exact ⟨ret_i (by rw [← HR.out]; rfl), hgA.tr hb2⟩
    · go_wp2_with fail
      refine (H3.out _ (hgA.tr hb2)).mono ?_
      rintro e w3 ⟨rfl, hb3⟩
      have hb3' : Gr w2 w3 := hb3
      obtain ⟨⟨x0, x1, x2⟩, _⟩ := rows3 (((hb2.tr hb3').block w.heap.size (by simp)).trans HA.out)
      cases B3
      · go_wp2
        go_ret
        exact ⟨ret_i (by rw [← HR.out]; rfl), (hgA.tr hb2).tr hb3'⟩
      · go_wp2_with fail
        refine (H4.out _ ((hgA.tr hb2).tr hb3')).mono ?_
        rintro e w4 ⟨rfl, hb4⟩
        go_wp2
        go_ret
        exact ⟨ret_i (by rw [← HR.out]; rfl), ((hgA.tr hb2).tr hb3').tr hb4⟩
end Go.Proofs.YtepljjaienpepaaDoor
