/-
  Walks on search paths: lists of ints.
-/
import Derived.Test.YtfjdmcbcojlnmaaNamesA
import Derived.Test.YtfjdmcbcojlnmaaMem
import Derived.Test.YtfjdmcbcojlnmaaPlainB
namespace Go.Proofs.Ytfjdmcbcojlnmaa
open Go Go.RowKit Imp

theorem ret_int {a b : Int} (h : a = b) : Ending.returned (.int .i64 a) = .returned (.int .i64 b) := by rw [h]

theorem eqIntS_any {lo hi lo' hi' : Nat} (v u : Value) (L M : List Int) (w : World) (hv : SlR w lo hi 1 eI v L) (hu : SlR w lo' hi' 1 eI u M) :
    Calls Try.prog 12 #[v, u] w fun e w' => e = .returned (.bool (decide (L = M))) ∧ ∃ n, w' = w.drewN n := by
  obtain ⟨a, c, rfl, h1, h2, h3⟩ := hv
  obtain ⟨a', c', rfl, h1', h2', h3'⟩ := hu
  unfold maxLen at h2 h2'
  by_cases hl : L.length = M.length
  · have hl0 : ((L.length : Int) != (M.length : Int)) = false := by simp [hl]
    have HL := Lib.hid hl
    go_enter Try.func12, Try.ntmps12
    go_wp2
    go_loopw [5] (fun i wr => ∃ k n : Nat, k ≤ L.length ∧ i = .int .i64 k ∧ wr = w.drewN n ∧ L.take k = M.take k) (fun i _ => L.length - (intOf i).toNat)
    case atStart => exact ⟨0, 0, Nat.zero_le _, rfl, rfl, by simp⟩
    case round =>
      obtain ⟨k, n, hk, rfl, rfl, hall⟩ := hrel
      have H := Lib.hid hall
      clear hall
      by_cases hlt : k < L.length
      · obtain ⟨b, o, rfl, _, hc⟩ := h3 k hlt
        obtain ⟨b', o', rfl, _, hc'⟩ := h3' k (by omega)
        have hlm : k < M.length := by omega
        have c0 := hc 0 _ rfl
        have c0' := hc' 0 _ rfl
        clear hc hc' h3 h3'
        simp only [Nat.mul_one, Nat.add_zero] at c0 c0'
        go_wp2
        go_quiet (fail)
        go_wp2
        · go_ret
          have hne : (L[k] != M[k]) = true := by assumption
          exact ⟨ret_bool (decide_eq_false (ne_at hlt hlm (by simpa using hne))).symm, dd _ _ _⟩
        · have hne : (L[k] != M[k]) = false := by assumption
          go_roundw
          case rel => exact ⟨k + 1, _, by omega, by go_num, rfl, take_eq_succ hlt hlm H.out (by simpa using hne)⟩
          case measure => simp [intOf]; omega
      · go_wp2
        go_ret
        exact ⟨ret_bool (decide_eq_true (eq_of_take HL.out (by omega) H.out)).symm, _, rfl⟩
  · have hl0 : ((L.length : Int) != (M.length : Int)) = true := by rw [bne_iff_ne]; omega
    go_enter Try.func12, Try.ntmps12
    go_wp2
    go_ret
    exact ⟨ret_bool (decide_eq_false (ne_len hl)).symm, 0, rfl⟩
theorem intAt_any {lo hi : Nat} (v : Value) (L : List Int) (x : Int) (w : World) (hv : SlR w lo hi 1 eI v L) :
    Calls Try.prog 21 #[v, .int .i64 x] w fun e w' => e = .returned (.int .i64 (ix (· == x) L)) ∧ w = w' := by
  obtain ⟨a, c, rfl, h1, h2, h3⟩ := hv
  unfold maxLen at h2
  go_enter Try.func21, Try.ntmps21
  go_wp2
  go_loop [5] (fun i => ∃ k : Nat, k ≤ L.length ∧ i = .int .i64 k ∧ (L.take k).any (· == x) = false) (fun i => L.length - (intOf i).toNat)
  case atStart => exact ⟨0, Nat.zero_le _, rfl, by simp⟩
  case round =>
    obtain ⟨k, hk, rfl, hall⟩ := hrel
    have H := Lib.hid hall
    clear hall
    by_cases hlt : k < L.length
    · obtain ⟨b, o, rfl, _, hc⟩ := h3 k hlt
      have c0 := hc 0 _ rfl
      clear hc h3
      simp only [Nat.mul_one, Nat.add_zero] at c0
      go_wp2
      · go_ret
        have hne : (L[k] == x) = true := by assumption
        exact ⟨ret_int (ix_hit hlt H.out hne).symm, rfl⟩
      · have hne : (L[k] == x) = false := by assumption
        go_round
        case rel => exact ⟨k + 1, by omega, by go_num, by rw [any_take_succ _ _ _ hlt, H.out]; exact hne⟩
        case measure => simp [intOf]; omega
    · go_wp2
      go_ret
      exact ⟨ret_int (ix_none (by rw [← List.take_of_length_le (show L.length ≤ k by omega)]; exact H.out)).symm, rfl⟩
theorem slIndexInt_any {lo hi : Nat} (v : Value) (L : List Int) (x : Int) (w : World) (hv : SlR w lo hi 1 eI v L) :
    Calls Try.prog 22 #[v, .int .i64 x] w fun e w' => e = .returned (.int .i64 (ix (· == x) L)) ∧ w = w' := by
  obtain ⟨a, c, rfl, h1, h2, h3⟩ := hv
  unfold maxLen at h2
  go_enter Try.func22, Try.ntmps22
  go_wp2
  go_loop [8] (fun i => ∃ k : Nat, k ≤ L.length ∧ i = .int .i64 k ∧ (L.take k).any (· == x) = false) (fun i => L.length - (intOf i).toNat)
  case atStart => exact ⟨0, Nat.zero_le _, rfl, by simp⟩
  case round =>
    obtain ⟨k, hk, rfl, hall⟩ := hrel
    have H := Lib.hid hall
    clear hall
    by_cases hlt : k < L.length
    · obtain ⟨b, o, rfl, _, hc⟩ := h3 k hlt
      have c0 := hc 0 _ rfl
      clear hc h3
      simp only [Nat.mul_one, Nat.add_zero] at c0
      go_wp2
      · go_ret
        have hne : (x == L[k]) = true := by assumption
        exact ⟨ret_int (ix_hit hlt H.out (by rw [beq_iff_eq] at hne ⊢; exact hne.symm)).symm, rfl⟩
      · have hne : (x == L[k]) = false := by assumption
        go_round
        case rel => exact ⟨k + 1, by omega, by go_num, by rw [any_take_succ _ _ _ hlt, H.out]; rw [beq_eq_false_iff_ne] at hne; simp; exact fun e => hne e.symm⟩
        case measure => simp [intOf]; omega
    · go_wp2
      go_ret
      exact ⟨ret_int (ix_none (by rw [← List.take_of_length_le (show L.length ≤ k by omega)]; exact H.out)).symm, rfl⟩
theorem slContainsInt_any {lo hi : Nat} (v : Value) (L : List Int) (x : Int) (w : World) (hv : SlR w lo hi 1 eI v L) :
    Calls Try.prog 17 #[v, .int .i64 x] w fun e w' => e = .returned (.bool (L.any (· == x))) ∧ w = w' := by
  have hg := ix_ge (· == x) L
  have HG := Lib.hid hg
  clear hg
  go_enter Try.func17, Try.ntmps17
  go_wp2_with (go_at_call 22; refine (slIndexInt_any _ L _ _ hv).mono ?_; rintro e w' ⟨rfl, rfl⟩)
  go_ret
  exact ⟨ret_bool HG.out, rfl⟩
theorem svalidPath_any {lo hi : Nat} (v : Value) (L : List Int) (w : World) (hv : SlR w lo hi 1 eI v L) :
    Calls Try.prog 16 #[v] w fun e w' => e = .returned (.bool (vPath L)) ∧ ∃ n, w' = w.drewN n := by
  have hv0 := hv
  obtain ⟨a, c, rfl, h1, h2, h3⟩ := hv
  unfold maxLen at h2
  go_enter Try.func16, Try.ntmps16
  go_wp2
  go_loopw [3] (fun i wr => ∃ k n : Nat, k ≤ L.length ∧ i = .int .i64 k ∧ wr = w.drewN n ∧ allTo k (pathAt L) = true) (fun i _ => L.length - (intOf i).toNat)
  case atStart => exact ⟨0, 0, Nat.zero_le _, rfl, rfl, rfl⟩
  case round =>
    obtain ⟨k, n, hk, rfl, rfl, hall⟩ := hrel
    have H := Lib.hid hall
    clear hall
    by_cases hlt : k < L.length
    · have hp := pathAt_eq hlt
      have HP := Lib.hid hp
      have hs := allTo_succ k (pathAt L)
      have HS := Lib.hid hs
      have hv1 := hv0.take k (by omega)
      obtain ⟨b, o, rfl, _, hc⟩ := h3 k hlt
      have c0 := hc 0 _ rfl
      clear hc h3 hp hs
      simp only [Nat.mul_one, Nat.add_zero] at c0
      by_cases hr : rootB L[k] = true
      · have hr' : (decide (0 ≤ L[k]) && decide (L[k] ≤ 2)) = true := hr
        go_wp2
        go_quiet ((first
          | (go_at_call 20; exact quiet_add_left (inRange_any _ _ _ _))
          | (go_at_call 21; exact quiet_add_left (intAt_any _ (L.take k) _ _ (hv1.drewN _)))))
        go_wp2
        · have hx : 0 ≤ ix (fun y => y == L[k]) (List.take k L) := by assumption
          go_ret
          refine ⟨ret_bool (allTo_bad hlt ?_).symm, dd _ _ _⟩
          rw [HP.out, ← ix_ge, decide_eq_true hx]; simp
        · have hx : ix (fun y => y == L[k]) (List.take k L) < 0 := by assumption
          go_roundw
          case rel => exact ⟨k + 1, _, by omega, by go_num, rfl, by rw [HS.out, H.out, HP.out, hr, ← ix_ge, decide_eq_false (by omega)]; rfl⟩
          case measure => simp [intOf]; omega
      · have hr' : (decide (0 ≤ L[k]) && decide (L[k] ≤ 2)) = false := by simpa [rootB] using hr
        go_wp2
        go_quiet ((first
          | (go_at_call 20; exact quiet_add_left (inRange_any _ _ _ _))
          | (go_at_call 21; exact quiet_add_left (intAt_any _ (L.take k) _ _ (hv1.drewN _)))))
        go_wp2
        go_ret
        exact ⟨ret_bool (allTo_bad hlt (by rw [HP.out, show rootB L[k] = false by simpa using hr]; rfl)).symm, dd _ _ _⟩
    · go_wp2
      go_ret
      exact ⟨ret_bool (by rw [vPath, show L.length = k by omega, H.out]), _, rfl⟩
theorem sValidPath_any {lo hi : Nat} (v : Value) (L : List Int) (w : World) (hv : SlR w lo hi 1 eI v L) :
    Calls Try.prog 9 #[v] w fun e w' => e = .returned (.bool (vPath L)) ∧ ∃ n, w' = w.drewN n := by
  go_enter Try.func9, Try.ntmps9
  go_wp2_with (go_at_call 16; refine (svalidPath_any _ L _ hv).mono ?_; rintro e w' ⟨rfl, n, rfl⟩)
  go_ret
  exact ⟨rfl, _, rfl⟩
theorem iValidPath_any {lo hi : Nat} (v : Value) (L : List Int) (w : World) (hv : SlR w lo hi 1 eI v L) :
    Calls Try.prog 11 #[v] w fun e w' => e = .returned (.bool (vPath L)) ∧ w = w' := by
  have hv0 := hv
  obtain ⟨a, c, rfl, h1, h2, h3⟩ := hv
  unfold maxLen at h2
  go_enter Try.func11, Try.ntmps11
  go_wp2
  go_loop [7] (fun i => ∃ k : Nat, k ≤ L.length ∧ i = .int .i64 k ∧ allTo k (pathAt L) = true) (fun i => L.length - (intOf i).toNat)
  case atStart => exact ⟨0, Nat.zero_le _, rfl, rfl⟩
  case round =>
    obtain ⟨k, hk, rfl, hall⟩ := hrel
    have H := Lib.hid hall
    clear hall
    by_cases hlt : k < L.length
    · have hp := pathAt_eq hlt
      have HP := Lib.hid hp
      have hs := allTo_succ k (pathAt L)
      have HS := Lib.hid hs
      have hv1 := hv0.take k (by omega)
      obtain ⟨b, o, rfl, _, hc⟩ := h3 k hlt
      have c0 := hc 0 _ rfl
      clear hc h3 hp hs
      simp only [Nat.mul_one, Nat.add_zero] at c0
      by_cases hr : rootB L[k] = true
      · have hr' : (decide (0 ≤ L[k]) && decide (L[k] ≤ 2)) = true := hr
        by_cases ha : (L.take k).any (fun y => y == L[k]) = true
        · go_wp2_with (first
            | (go_at_call 15; refine (within_any _ _ _ _).mono ?_; rintro e w' ⟨rfl, rfl⟩)
            | (go_at_call 17; refine (slContainsInt_any _ (L.take k) _ _ hv1).mono ?_; rintro e w' ⟨rfl, rfl⟩))
          go_ret
          exact ⟨ret_bool (allTo_bad hlt (by rw [HP.out, ha]; simp)).symm, rfl⟩
        · have ha' : (L.take k).any (fun y => y == L[k]) = false := (Bool.not_eq_true _).mp ha
          have HA := Lib.hid ha'
          go_wp2_with (first
            | (go_at_call 15; refine (within_any _ _ _ _).mono ?_; rintro e w' ⟨rfl, rfl⟩)
            | (go_at_call 17; refine (slContainsInt_any _ (L.take k) _ _ hv1).mono ?_; rintro e w' ⟨rfl, rfl⟩))
          go_round
          case rel => exact ⟨k + 1, by omega, by go_num, by rw [HS.out, H.out, HP.out, HA.out, hr]; rfl⟩
          case measure => simp [intOf]; omega
      · have hr' : (decide (0 ≤ L[k]) && decide (L[k] ≤ 2)) = false := by simpa [rootB] using hr
        go_wp2_with (go_at_call 15; refine (within_any _ _ _ _).mono ?_; rintro e w' ⟨rfl, rfl⟩)
        go_ret
        exact ⟨ret_bool (allTo_bad hlt (by rw [HP.out, show rootB L[k] = false by simpa using hr]; rfl)).symm, rfl⟩
    · go_wp2
      go_ret
      exact ⟨ret_bool (by rw [vPath, show L.length = k by omega, H.out]), rfl⟩
theorem toIntS_info : (Try.prog.info? 3).map (fun i => (i.zero, i.size, i.bytes)) = some (some (.int .i64 0), 1, 8) := by kernel_rfl
theorem toIntS_any {lo hi : Nat} (v : Value) (L : List Int) (w : World) (hv : SlR w lo hi 1 eI v L) (hhi : hi ≤ w.heap.size) (hn : L.length ≤ 1048576) :
    Calls Try.prog 10 #[v] w fun e w' => ∃ u, e = .returned u ∧ SlR w' w.heap.size w'.heap.size 1 eI u L ∧ Below w.heap.size w w' := by
  have hv0 := hv
  obtain ⟨a, c, rfl, h1, h2, h3⟩ := hv
  unfold maxLen at h2
  have hmk := run_make_row' (P := Try.prog) 24 3 (.int .i64 0) 8 Try.underlying24 toIntS_info rfl .i64 .i64 L.length (by omega) (by omega)
  go_enter Try.func10, Try.ntmps10
  go_wp2
  go_loopw [4] (fun i wr => ∃ k : Nat, k ≤ L.length ∧ i = .int .i64 k ∧ wr.rowIs w.heap.size 3 L.length (fun j => if j < k then .int .i64 (L.getD j 0) else .int .i64 0) ∧ Below w.heap.size w wr)
    (fun i _ => L.length - (intOf i).toNat)
  case atStart => exact ⟨0, Nat.zero_le _, rfl, (World.rowIs_made w _ _ _).congr (fun j _ => by simp), (Below.refl _ _).alloc (Nat.le_refl _) _⟩
  case round =>
    obtain ⟨k, hk, rfl, hrow, hbel⟩ := hrel
    have HR := Lib.hid hrow
    clear hmk
    by_cases hlt : k < L.length
    · obtain ⟨b, o, rfl, hb, hc⟩ := h3 k hlt
      have c0 : wr.cell? ⟨b, o + k, none⟩ = some (.int .i64 L[k]) := (hbel.cell (p := ⟨b, o + k, none⟩) (Nat.lt_of_lt_of_le hb.2 hhi)).trans (by have := hc 0 _ rfl; simpa using this)
      have cB := hrow.cell hlt
      have fB := hrow.frozen k
      have hset := hrow.set k (.int .i64 L[k])
      have HS := Lib.hid hset
      clear hc h3 hrow hset
      go_wp2
      go_roundw
      case rel =>
        refine ⟨k + 1, by omega, by go_num, HS.out.congr (fun j hj => ?_), hbel.setCell (Nat.le_refl _) _⟩
        by_cases e : j = k
        · subst e; simp [List.getElem?_eq_getElem hlt]
        · simp only [if_neg e]
          by_cases h : j < k
          · rw [if_pos h, if_pos (by omega)]
          · rw [if_neg h, if_neg (by omega)]
      case measure => simp [intOf]; omega
    · go_wp2
      go_ret
      have hkl : k = L.length := by omega
      subst hkl
      refine ⟨_, rfl, ⟨_, _, rfl, Nat.le_refl _, by unfold maxLen; omega, fun i hi => ⟨w.heap.size, 0, rfl, ⟨Nat.le_refl _, HR.out.lt⟩, fun j u hu => ?_⟩⟩, hbel⟩
      have hj : j < 1 := (List.getElem?_eq_some_iff.1 hu).1
      obtain rfl : j = 0 := by omega
      have := HR.out.cell hi
      simp [eI] at hu
      subst hu
      simpa [hi] using this
end Go.Proofs.Ytfjdmcbcojlnmaa
