/-
  Walks of the laws on disks: disks go on, and stamps are of the past.
-/
import Derived.Test.YtepljjaienpepaaDoorDiskGZ
namespace Imp
open Go Go.RowKit
theorem okDisk_nil {T : List Fil} {c : Int} {D : List Dr} (h : okDisk T c D = true) : okDisk T c [] = true := by
  rw [okDisk_iff] at h ⊢
  exact ⟨h.1, h.2.1, rfl⟩
theorem okDisk_later {T : List Fil} {c c' : Int} {D : List Dr} (h : okDisk T c D = true) (h1 : c ≤ c') (h2 : c' ≤ 200) : okDisk T c' D = true := by
  rw [okDisk_iff] at h ⊢
  obtain ⟨a1, a2, a3⟩ := h
  refine ⟨a1, ⟨by omega, h2⟩, ?_⟩
  rw [okDirs_iff] at a3 ⊢
  refine ⟨fun d hd => ?_, a3.2⟩
  have := a3.1 d hd
  unfold okDr at this ⊢
  simp only [Bool.and_eq_true, decide_eq_true_eq] at this ⊢
  obtain ⟨⟨⟨q1, q2⟩, q3, q4⟩, q5⟩ := this
  exact ⟨⟨⟨q1, q2⟩, q3, by omega⟩, q5⟩
theorem ixFrom_sat {α : Type} (p : α → Bool) : ∀ (L : List α) (n k : Nat) (h : k < L.length), ixFrom p L n = ((n + k : Nat) : Int) → p L[k] = true
  | x :: t, n, 0, _, he => by
    rw [ixFrom] at he
    by_cases hx : p x = true
    · exact hx
    · rw [if_neg hx] at he
      rcases ixFrom_range p t (n + 1) with ⟨_, h2, _⟩ | ⟨_, h2⟩ <;> omega
  | x :: t, n, k + 1, h, he => by
    rw [ixFrom] at he
    by_cases hx : p x = true
    · rw [if_pos hx] at he; omega
    · rw [if_neg hx] at he
      exact ixFrom_sat p t (n + 1) k (by simpa using h) (by rw [he]; congr 1; omega)
theorem ix_sat {α : Type} {p : α → Bool} {L : List α} {k : Nat} (he : ix p L = (k : Int)) (h : k < L.length) : p L[k] = true := ixFrom_sat p L 0 k h (by unfold ix at he; rw [he]; simp)
def hitD (root : Int) (p : ByteArray) (st : Int) (d : Dr) : Bool := (d.root == root) && (d.pkg.toList == p.toList) && (d.stamp == st)
theorem fStamp_facts {T : List Fil} {c : Int} {D : List Dr} {root : Int} {p : ByteArray} (h : ¬ fStamp T c D root p < 0) : fStamp T c D root p ≤ c ∧ (D.any (hitD root p (fStamp T c D root p)) = true ∨ fStamp T c D root p = 0) := by
  unfold fStamp at h ⊢
  by_cases hc : (okDisk T c D && (decide (0 ≤ root) && decide (root ≤ 2)) && vPkg (bs p)) = true
  · rw [if_pos hc] at h ⊢
    simp only [Bool.and_eq_true] at hc
    obtain ⟨a1, a2, a3⟩ := (okDisk_iff _ _ _).1 hc.1.1
    rw [okDirs_iff] at a3
    rcases ix_range (samD root p) D with ⟨_, h1, h2⟩ | ⟨_, h1⟩
    · obtain ⟨k, hk⟩ : ∃ k : Nat, ix (samD root p) D = k := ⟨(ix (samD root p) D).toNat, by omega⟩
      have hkl : k < D.length := by omega
      have e : stampP D root p = D[k].stamp := by
        unfold stampP
        rw [hk, Int.toNat_natCast, List.getElem?_eq_getElem hkl]
        show (if ((k : Nat) : Int) < 0 then (0 : Int) else D[k].stamp) = _
        rw [if_neg (by omega)]
      have hd := a3.1 D[k] (List.getElem_mem hkl)
      unfold okDr at hd
      simp only [Bool.and_eq_true, decide_eq_true_eq] at hd
      rw [e]
      refine ⟨hd.1.2.2, Or.inl ?_⟩
      have hs := ix_sat hk hkl
      rw [List.any_eq_true]
      refine ⟨D[k], List.getElem_mem hkl, ?_⟩
      unfold hitD
      unfold samD at hs
      rw [hs]; simp
    · have e : stampP D root p = 0 := by
        unfold stampP
        split
        · rw [if_pos (by omega)]
        · rfl
      rw [e]
      exact ⟨by omega, Or.inr rfl⟩
  · rw [if_neg hc] at h
    exact absurd (by decide) h
end Imp
namespace Go.Proofs.YtepljjaienpepaaDoor
open Go Go.RowKit Imp
set_option linter.unusedVariables false
set_option linter.unusedSimpArgs false
set_option maxHeartbeats 6400000 in
theorem walk_FnValidDisk (w : World) (hok : OkW w) (v : Value) (L : List UInt8) (hv : SlR w 0 w.heap.size 1 eB v L) :
    Calls Tryd.prog 4 #[v] w fun e w' => e = .returned (.bool true) ∧ Below w.heap.size w w' := by
  have hlen := hv.len_le
  have hv0 := hv
  obtain ⟨a, c, rfl, _, _⟩ := hv.form
  unfold maxLen at hlen
  by_cases hbig : L.length ≤ 1048576
  · have hd : decide ((1048576 : Int) < (L.length : Int)) = false := decide_eq_false (by omega)
    go_enter Tryd.func4, Tryd.ntmps4
    go_wp2_with fail
    refine (DrawValidDisk_any _ L _ hok hv0 (Nat.le_refl _) hbig).mono ?_
    rintro e w1 ⟨tv, cl, dv, T, D, rfl, hdk, hb1⟩
    obtain ⟨ta, tc, rfl, _, _⟩ := hdk.1.1.form
    obtain ⟨da, dc, rfl, _, _⟩ := hdk.2.1.1.form
    obtain ⟨hT, hD, hst, hsd, _, _, hcl⟩ := hdk
    have hok1 := hok.gr hb1
    have hA := heap_alloc_new w1 (.cells #[.slice ta T.length tc, .int .i64 cl, .slice da D.length dc] 28)
    have hgX : Gr w1 (w1.alloc (.cells #[.slice ta T.length tc, .int .i64 cl, .slice da D.length dc] 28)) := gr_al w1 _
    have hsm : ∀ r ∈ T, SmF r := fun r hr => smF_Fd (hst r hr)
    have hsmd : ∀ r ∈ D, SmD r := fun r hr => by have := hsd r hr; unfold SmD; omega
    have h2 := fun W (h : Gr w1 W) => iValidDisk_any _ _ T cl D W (hok1.gr h) (hT.below h (Nat.le_refl _)) (hD.below h (Nat.le_refl _)) h.size hsm hsmd
    have h3 := fun W (h : Gr w1 W) => sValidDisk_any _ _ T cl D W (hok1.gr h) (hT.below h (Nat.le_refl _)) (hD.below h (Nat.le_refl _)) h.size hsm hsmd
    have h4 := fun W (h : Gr w1 W) => iValidDisk_any (lo := 0) (hi := w1.heap.size) _ (.slice none 0 0) T cl [] W (hok1.gr h) (hT.below h (Nat.le_refl _)) ⟨SlR.nil _ _ 0 (Nat.zero_le _) _, by simp⟩ h.size hsm (by simp)
    have h5 := fun W c2 (h : Gr w1 W) => iValidDisk_any _ _ T c2 D W (hok1.gr h) (hT.below h (Nat.le_refl _)) (hD.below h (Nat.le_refl _)) h.size hsm hsmd
    obtain ⟨R, hR⟩ : ∃ R, R = okDisk (T.map (·.1)) cl (D.map (·.1)) := ⟨_, rfl⟩
    rw [← hR] at h2 h3
    have hall : ∀ W, Gr (w1.alloc (.cells #[.slice ta T.length tc, .int .i64 cl, .slice da D.length dc] 28)) W → W.cell? ⟨w1.heap.size, 0, none⟩ = some (.slice ta T.length tc) ∧ W.cell? ⟨w1.heap.size, 1, none⟩ = some (.int .i64 cl) ∧ W.cell? ⟨w1.heap.size, 2, none⟩ = some (.slice da D.length dc) := fun W h => (rows3 ((h.block _ (by simp)).trans hA)).1
    have HR := Lib.hid hR
    have HALL := Lib.hid hall
    have H2 := Lib.hid h2
    have H3 := Lib.hid h3
    obtain ⟨x0, x1, x2⟩ := hall _ (Gr.rfl' _)
    clear hR hall h2 h3 hA hT hD hst hsd
    cases R
    · clear h4 h5
      go_wp2_with fail
      refine (H2.out _ hgX).mono ?_
      rintro e w2 ⟨rfl, hb2⟩
      clear x0 x1 x2
      obtain ⟨x0, x1, x2⟩ := HALL.out _ hb2
      go_wp2_with fail
      refine (H3.out _ (hgX.tr hb2)).mono ?_
      rintro e w3 ⟨rfl, hb3⟩
      clear x0 x1 x2
      obtain ⟨x0, x1, x2⟩ := HALL.out _ (hb2.tr hb3)
      go_wp2_with fail
      refine (H3.out _ (hgX.tr (hb2.tr hb3))).mono ?_
      rintro e w4 ⟨rfl, hb4⟩
      go_wp2
      go_ret
      exact ⟨rfl, (hb1.tr hgX).tr ((hb2.tr hb3).tr hb4)⟩
    · have hv := HR.out.symm
      have hcb : 0 ≤ cl ∧ cl ≤ 200 := ((okDisk_iff _ _ _).1 hv).2.1
      have hws : IntKind.i64.wrap (cl + 1) = cl + 1 := IntWalk.i64_in _ (by omega)
      simp only [List.map_nil, okDisk_nil hv] at h4
      have h6 : ∀ W c2 (h : Gr w1 W), cl ≤ c2 → c2 ≤ 200 → Calls Tryd.prog 9 #[vDk (.slice ta T.length tc) c2 (.slice da D.length dc)] W fun e w' => e = .returned (.bool true) ∧ Gr W w' := fun W c2 h q1 q2 => by
        have := h5 W c2 h
        rw [okDisk_later hv q1 q2] at this
        exact this
      have H4 := Lib.hid h4
      have H6 := Lib.hid h6
      clear h4 h5 h6 hv
      go_wp2_with fail
      refine (H2.out _ hgX).mono ?_
      rintro e w2 ⟨rfl, hb2⟩
      clear x0 x1 x2
      obtain ⟨x0, x1, x2⟩ := HALL.out _ hb2
      go_wp2_with fail
      refine (H3.out _ (hgX.tr hb2)).mono ?_
      rintro e w3 ⟨rfl, hb3⟩
      clear x0 x1 x2
      obtain ⟨x0, x1, x2⟩ := HALL.out _ (hb2.tr hb3)
      go_wp2_with fail
      refine (H4.out _ (hgX.tr (hb2.tr hb3))).mono ?_
      rintro e w4 ⟨rfl, hb4⟩
      clear x0 x1 x2
      obtain ⟨x0, x1, x2⟩ := HALL.out _ ((hb2.tr hb3).tr hb4)
      go_wp2_with fail
      refine (H6.out _ _ (hgX.tr ((hb2.tr hb3).tr hb4)) (by omega) (by omega)).mono ?_
      rintro e w5 ⟨rfl, hb5⟩
      go_wp2
      go_ret
      exact ⟨rfl, (hb1.tr hgX).tr (((hb2.tr hb3).tr hb4).tr hb5)⟩
  · go_enter Tryd.func4, Tryd.ntmps4
    go_wp2
    go_ret
    exact ⟨rfl, Below.refl _ _⟩
set_option maxHeartbeats 6400000 in
theorem walk_FnStampOf (w : World) (hok : OkW w) (v : Value) (L : List UInt8) (hv : SlR w 0 w.heap.size 1 eB v L) :
    Calls Tryd.prog 3 #[v] w fun e w' => e = .returned (.bool true) ∧ Below w.heap.size w w' := by
  have hlen := hv.len_le
  have hv0 := hv
  obtain ⟨a, c, rfl, _, _⟩ := hv.form
  unfold maxLen at hlen
  by_cases hbig : L.length ≤ 1048576
  · have hd : decide ((1048576 : Int) < (L.length : Int)) = false := decide_eq_false (by omega)
    go_enter Tryd.func3, Tryd.ntmps3
    go_wp2_with fail
    refine (DrawStampOf_any _ L _ hok hv0 (Nat.le_refl _) hbig).mono ?_
    rintro e w1 ⟨tv, cl, dv, T, D, root, p, rfl, hdk, hps, hb1⟩
    obtain ⟨ta, tc, rfl, _, _⟩ := hdk.1.1.form
    obtain ⟨da, dc, rfl, hdc, hdc2⟩ := hdk.2.1.1.form
    obtain ⟨hT, hD, hst, hsd, _, hDl, hcl⟩ := hdk
    have hok1 := hok.gr hb1
    have hA := heap_alloc_new w1 (.cells #[.slice ta T.length tc, .int .i64 cl, .slice da D.length dc] 28)
    have hgX : Gr w1 (w1.alloc (.cells #[.slice ta T.length tc, .int .i64 cl, .slice da D.length dc] 28)) := gr_al w1 _
    have hsm : ∀ r ∈ T, SmF r := fun r hr => smF_Fd (hst r hr)
    have hsmd : ∀ r ∈ D, SmD r := fun r hr => by have := hsd r hr; unfold SmD; omega
    have h2 := fun W (h : Gr w1 W) => iStampOf_any _ _ T cl D root p W (hok1.gr h) (hT.below h (Nat.le_refl _)) (hD.below h (Nat.le_refl _)) h.size hsm hsmd (by omega)
    have h3 := fun W (h : Gr w1 W) => sStampOf_any _ _ T cl D root p W (hok1.gr h) (hT.below h (Nat.le_refl _)) (hD.below h (Nat.le_refl _)) h.size hsm hsmd (by omega)
    obtain ⟨R, hR⟩ : ∃ R, R = fStamp (T.map (·.1)) cl (D.map (·.1)) root p := ⟨_, rfl⟩
    rw [← hR] at h2 h3
    have hall : ∀ W, Gr (w1.alloc (.cells #[.slice ta T.length tc, .int .i64 cl, .slice da D.length dc] 28)) W → W.cell? ⟨w1.heap.size, 0, none⟩ = some (.slice ta T.length tc) ∧ W.cell? ⟨w1.heap.size, 1, none⟩ = some (.int .i64 cl) ∧ W.cell? ⟨w1.heap.size, 2, none⟩ = some (.slice da D.length dc) := fun W h => (rows3 ((h.block _ (by simp)).trans hA)).1
    have hrr : (R == R) = true := by simp
    have hrn : (R != R) = false := by simp
    have HR := Lib.hid hR
    have HALL := Lib.hid hall
    have H2 := Lib.hid h2
    have H3 := Lib.hid h3
    have HD := Lib.hid hD
    obtain ⟨x0, x1, x2⟩ := hall _ (Gr.rfl' _)
    clear hR hall h2 h3 hA hT hD hst hsd
    go_wp2_with fail
    refine (H2.out _ hgX).mono ?_
    rintro e w2 ⟨rfl, hb2⟩
    clear x0 x1 x2
    obtain ⟨x0, x1, x2⟩ := HALL.out _ hb2
    go_wp2_with fail
    refine (H3.out _ (hgX.tr hb2)).mono ?_
    rintro e w3 ⟨rfl, hb3⟩
    clear x0 x1 x2
    obtain ⟨x0, x1, x2⟩ := HALL.out _ (hb2.tr hb3)
    have hg3 := hb2.tr hb3
    by_cases hneg : R < 0
    · have hnd : decide (R < 0) = true := decide_eq_true hneg
      go_wp2_with fail
      refine (H3.out _ (hgX.tr hg3)).mono ?_
      rintro e w4 ⟨rfl, hb4⟩
      go_wp2
      go_ret
      exact ⟨rfl, (hb1.tr hgX).tr (hg3.tr hb4)⟩
    · have hnd : decide (R < 0) = false := decide_eq_false hneg
      obtain ⟨hle, hor⟩ : R ≤ cl ∧ ((D.map (·.1)).any (hitD root p R) = true ∨ R = 0) := by
        have hf := fStamp_facts (T := T.map (·.1)) (c := cl) (D := D.map (·.1)) (root := root) (p := p) (by rw [← HR.out]; exact hneg)
        rw [← HR.out] at hf
        exact hf
      rw [List.any_map] at hor
      have hled : decide (R ≤ cl) = true := decide_eq_true hle
      have HOR := Lib.hid hor
      clear hor hneg hle
      go_wp2
      go_loopw [7, 8] (fun m i wr => ∃ k : Nat, k ≤ D.length ∧ i = .int .i64 k ∧ m = .bool ((D.take k).any (fun r => hitD root p R r.1)) ∧ Gr (w1.alloc (.cells #[.slice ta T.length tc, .int .i64 cl, .slice da D.length dc] 28)) wr) (fun _ i _ => D.length - (intOf i).toNat)
      case atStart => exact ⟨0, Nat.zero_le _, rfl, rfl, hg3⟩
      case round =>
        obtain ⟨k, hk, rfl, rfl, hgw⟩ := hrel
        clear x0 x1 x2
        obtain ⟨x0, x1, x2⟩ := HALL.out _ hgw
        by_cases hlt : k < D.length
        · have hkw : IntKind.i64.wrap ((k : Int) + 1) = (k : Int) + 1 := IntWalk.i64_in _ (by omega)
          obtain ⟨a', c', ee, _, _, hcl2⟩ := HD.out.1
          injection ee with e1 e2 e3
          obtain ⟨b, o, hab, hbb, hc⟩ := hcl2 k hlt
          obtain ⟨x, hx⟩ : ∃ x, x = D[k] := ⟨_, rfl⟩
          obtain ⟨c0, c1, c2, c3⟩ := cells_dir (w := wr) (b := b) (o := o) (k := k) (x := x) (fun j u hu => ((hgX.tr hgw).cell (p := ⟨b, o + k * 4 + j, none⟩) hbb.2).trans (hc j u (by rw [← hx]; exact hu)))
          have hda : da = some ⟨b, o, none⟩ := e1.trans hab
          subst hda
          have hki : (k : Int) < (D.length : Int) := by omega
          have hstep : (D.take (k + 1)).any (fun r => hitD root p R r.1) = ((D.take k).any (fun r => hitD root p R r.1) || hitD root p R x.1) := by rw [any_take_succ _ _ _ hlt, ← hx]
          obtain ⟨B0, hB0⟩ : ∃ B, (D.take k).any (fun r => hitD root p R r.1) = B := ⟨_, rfl⟩
          have hhit : hitD root p R x.1 = ((x.1.root == root) && (x.1.pkg.toList == p.toList) && (x.1.stamp == R)) := rfl
          obtain ⟨B1, hB1⟩ : ∃ B, (x.1.root == root) = B := ⟨_, rfl⟩
          obtain ⟨B2, hB2⟩ : ∃ B, (x.1.pkg.toList == p.toList) = B := ⟨_, rfl⟩
          obtain ⟨B3, hB3⟩ : ∃ B, (x.1.stamp == R) = B := ⟨_, rfl⟩
          rw [hB1, hB2, hB3] at hhit
          rw [hhit, hB0] at hstep
          rw [hB0]
          have HS := Lib.hid hstep
          clear hstep hhit hc hcl2 hx e1 e2 e3 hab hB0 c3
          cases B0 <;> cases B1 <;> cases B2 <;> cases B3
          all_goals go_wp2
          all_goals go_roundw
          all_goals first
            | (simp [intOf]; omega)
            | (refine ⟨k + 1, by omega, by go_num, ?_, by first | exact hgw | exact Below.drew hgw | exact below_drewN hgw _⟩; rw [HS.out]; rfl)
        · have hkd : decide ((k : Int) < (D.length : Int)) = false := decide_eq_false (by omega)
          have hor := HOR.out
          have hfull : (D.take k).any (fun r => hitD root p R r.1) = D.any (fun r => hitD root p R r.1) := by rw [List.take_of_length_le (by omega)]
          rw [hfull]
          obtain ⟨B0, hB0⟩ : ∃ B, D.any (fun r => hitD root p R r.1) = B := ⟨_, rfl⟩
          have hor2 : B0 = true ∨ R = 0 := hor.elim (fun h => Or.inl (by rw [← hB0]; exact h)) Or.inr
          rw [hB0]
          clear hfull hor hB0 HOR
          cases B0
          · have hR0 : (R == 0) = true := hor2.elim (fun h => by cases h) (fun h => by rw [h]; rfl)
            clear hor2
            go_wp2
            go_ret
            exact ⟨rfl, (hb1.tr hgX).tr hgw⟩
          · clear hor2
            go_wp2
            go_ret
            exact ⟨rfl, (hb1.tr hgX).tr hgw⟩
  · go_enter Tryd.func3, Tryd.ntmps3
    go_wp2
    go_ret
    exact ⟨rfl, Below.refl _ _⟩
end Go.Proofs.YtepljjaienpepaaDoor
