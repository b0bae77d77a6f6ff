/-
  Walks: within, inRange, ValidPart of both packages: what they return, for every argument.
-/
import Derived.Test.YtomndnlpogikdaaDoorRows
import Derived.Test.YtomndnlpogikdaaDoorPlainA
import Derived.WalkKit
import Derived.Lib.Hide
namespace Go.Proofs.YtomndnlpogikdaaDoor
open Go Go.RowKit Imp

theorem ret_bool {a b : Bool} (h : a = b) : Ending.returned (.bool a) = .returned (.bool b) := by rw [h]

theorem within_any (n lo hi : Int) (w : World) :
    Calls Tryd.prog 58 #[.int .i64 n, .int .i64 lo, .int .i64 hi] w fun e w' => e = .returned (.bool (decide (lo ≤ n) && decide (n ≤ hi))) ∧ w = w' := by
  go_enter Tryd.func58, Tryd.ntmps58
  go_wp2
  · go_ret
    have h : lo ≤ n := by assumption
    exact ⟨ret_bool (by simp [h]), rfl⟩
  · go_ret
    have h : n < lo := by assumption
    exact ⟨ret_bool (by simp; omega), rfl⟩
theorem inRange_any (n lo hi : Int) (w : World) :
    Calls Tryd.prog 55 #[.int .i64 n, .int .i64 lo, .int .i64 hi] w fun e w' => e = .returned (.bool (decide (lo ≤ n) && decide (n ≤ hi))) ∧ w = w' := by
  go_enter Tryd.func55, Tryd.ntmps55
  go_wp2
  · go_ret
    have h : lo ≤ n := by assumption
    exact ⟨ret_bool (by simp [h]), rfl⟩
  · go_ret
    have h : n < lo := by assumption
    exact ⟨ret_bool (by simp; omega), rfl⟩
theorem iValidPart_any (s : ByteArray) (w : World) (hs : s.size ≤ maxLen) :
    Calls Tryd.prog 87 #[.string s] w fun e w' => e = .returned (.bool (vPart (bs s))) ∧ w = w' := by
  unfold maxLen at hs
  go_enter Tryd.func87, Tryd.ntmps87
  go_wp2
  go_loop [6] (fun i => ∃ k : Nat, k ≤ s.size ∧ i = .int .i64 k ∧ ((bs s).take k).all letB = true) (fun i => s.size - (intOf i).toNat)
  case atStart => exact ⟨0, Nat.zero_le _, rfl, by simp⟩
  case round =>
    obtain ⟨k, hk, rfl, hall⟩ := hrel
    have H := Lib.hid hall
    clear hall
    by_cases hlt : k < s.size
    · have hb := all_take_succ letB (bs s) k hlt
      have HB := Lib.hid hb
      clear hb
      by_cases h1 : (97 : Int) ≤ (s[k].toNat : Int)
      · by_cases h2 : (s[k].toNat : Int) ≤ 122
        · go_wp2
          go_round
          case rel => exact ⟨k + 1, by omega, by go_num, by rw [HB.out, H.out]; exact letB_yes h1 h2⟩
          case measure => simp [intOf]; omega
        · go_wp2
          go_ret
          exact ⟨ret_bool (vPart_bad k hlt (show letB s[k] = false from letB_high (by omega))).symm, rfl⟩
      · go_wp2
        go_ret
        exact ⟨ret_bool (vPart_bad k hlt (show letB s[k] = false from letB_low (by omega))).symm, rfl⟩
    · go_wp2_with (go_at_call 58; refine (within_any _ _ _ _).mono ?_; rintro e w' ⟨rfl, rfl⟩)
      go_ret
      exact ⟨ret_bool (vPart_eq (by rw [← all_of_take letB (bs s) k (by rw [bs_length]; omega)]; exact H.out)).symm, rfl⟩
theorem svalidPart_any (s : ByteArray) (w : World) (hs : s.size ≤ maxLen) :
    Calls Tryd.prog 96 #[.string s] w fun e w' => e = .returned (.bool (vPart (bs s))) ∧ w = w' := by
  unfold maxLen at hs
  by_cases hlen : 1 ≤ s.size ∧ s.size ≤ 3
  · have h1 : (decide ((1 : Int) ≤ (s.size : Int)) && decide ((s.size : Int) ≤ 3)) = true := by simp; omega
    go_enter Tryd.func96, Tryd.ntmps96
    go_wp2_with (go_at_call 55; refine (inRange_any _ _ _ _).mono ?_; rintro e w' ⟨rfl, rfl⟩)
    go_loop [3] (fun i => ∃ k : Nat, k ≤ s.size ∧ i = .int .i64 k ∧ ((bs s).take k).all letB = true) (fun i => s.size - (intOf i).toNat)
    case atStart => exact ⟨0, Nat.zero_le _, rfl, by simp⟩
    case round =>
      obtain ⟨k, hk, rfl, hall⟩ := hrel
      have H := Lib.hid hall
      clear hall
      by_cases hlt : k < s.size
      · have hb := all_take_succ letB (bs s) k hlt
        have HB := Lib.hid hb
        clear hb
        by_cases h1 : (97 : Int) ≤ (s[k].toNat : Int)
        · by_cases h2 : (s[k].toNat : Int) ≤ 122
          · go_wp2
            go_round
            case rel => exact ⟨k + 1, by omega, by go_num, by rw [HB.out, H.out]; exact letB_yes h1 h2⟩
            case measure => simp [intOf]; omega
          · go_wp2
            go_ret
            exact ⟨ret_bool (vPart_bad k hlt (show letB s[k] = false from letB_high (by omega))).symm, rfl⟩
        · go_wp2
          go_ret
          exact ⟨ret_bool (vPart_bad k hlt (show letB s[k] = false from letB_low (by omega))).symm, rfl⟩
      · go_wp2
        go_ret
        exact ⟨ret_bool (by rw [vPart_eq (by rw [← all_of_take letB (bs s) k (by rw [bs_length]; omega)]; exact H.out)]; simp; omega), rfl⟩
  · have h1 : (decide ((1 : Int) ≤ (s.size : Int)) && decide ((s.size : Int) ≤ 3)) = false := by simp; omega
    go_enter Tryd.func96, Tryd.ntmps96
    go_wp2_with (go_at_call 55; refine (inRange_any _ _ _ _).mono ?_; rintro e w' ⟨rfl, rfl⟩)
    go_ret
    exact ⟨ret_bool (vPart_len hlen).symm, rfl⟩
end Go.Proofs.YtomndnlpogikdaaDoor
