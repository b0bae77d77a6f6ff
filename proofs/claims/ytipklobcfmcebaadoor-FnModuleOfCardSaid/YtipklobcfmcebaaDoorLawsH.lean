/-
  Walks: lists of texts compared and searched, as the laws do it.
-/
import Derived.Test.YtipklobcfmcebaaDoorLawsD
import Derived.Test.YtipklobcfmcebaaDoorLawsG
import Derived.Test.YtipklobcfmcebaaDoorPlainF
import Derived.Test.YtipklobcfmcebaaDoorStrs
namespace Imp
open Go
theorem any_mem {x : List UInt8} {L : List (List UInt8)} : L.any (fun l => decide (l = x)) = decide (x ∈ L) := by
  by_cases h : x ∈ L
  · rw [decide_eq_true h, List.any_eq_true]; exact ⟨x, h, decide_eq_true rfl⟩
  · rw [decide_eq_false h, List.any_eq_false]; intro y hy; simp; intro e; subst e; exact h hy
theorem dots_le (l : List UInt8) : dots l ≤ l.length := List.countP_le_length ..
theorem fJoin_parts {l : List UInt8} (h : vName l = true) : fJoin (fParts l) = l := by
  have e : fParts l = spl l := by rw [fParts, h]; rfl
  obtain ⟨_, hp⟩ := vName_parts h
  unfold fJoin
  rw [e, jn_spl, h, List.all_eq_true.mpr hp]; rfl
end Imp
namespace Go.Proofs.YtipklobcfmcebaaDoor
open Go Go.RowKit Imp
set_option linter.unusedVariables false

theorem equalTexts_any {lo hi lo' hi' : Nat} (v u : Value) (L M : List ByteArray) (w : World) (hv : SlR w lo hi 1 eS v L) (hu : SlR w lo' hi' 1 eS u M) :
    Calls Tryd.prog 22 #[v, u] w fun e w' => e = .returned (.bool (decide (L = M))) ∧ ∃ n, w' = w.drewN n := by
  obtain ⟨a, c, rfl, h1, h2, h3⟩ := hv
  obtain ⟨a', c', rfl, h1', h2', h3'⟩ := hu
  unfold maxLen at h2 h2'
  by_cases hl : L.length = M.length
  · have hl0 : ((L.length : Int) != (M.length : Int)) = false := by simp [hl]
    have HL := Lib.hid hl
    go_enter Tryd.func22, Tryd.ntmps22
    go_wp2
    go_loopw [5] (fun i wr => ∃ k n : Nat, k ≤ L.length ∧ i = .int .i64 k ∧ wr = w.drewN n ∧ L.take k = M.take k) (fun i _ => L.length - (intOf i).toNat)
    case atStart => exact ⟨0, 0, Nat.zero_le _, rfl, rfl, by simp⟩
    case round =>
      obtain ⟨k, n, hk, rfl, rfl, hall⟩ := hrel
      have H := Lib.hid hall
      clear hall
      by_cases hlt : k < L.length
      · obtain ⟨b, o, rfl, _, hc⟩ := h3 k hlt
        obtain ⟨b', o', rfl, _, hc'⟩ := h3' k (by omega)
        have hlm : k < M.length := by omega
        obtain ⟨x, hx⟩ : ∃ x, x = L[k] := ⟨_, rfl⟩
        obtain ⟨y, hy⟩ : ∃ y, y = M[k] := ⟨_, rfl⟩
        have c0 : w.cell? ⟨b, o + k * 1 + 0, none⟩ = some (.string x) := hc 0 _ (by rw [hx]; rfl)
        have c0' : w.cell? ⟨b', o' + k * 1 + 0, none⟩ = some (.string y) := hc' 0 _ (by rw [hy]; rfl)
        have HX := Lib.hid hx
        have HY := Lib.hid hy
        clear hc hc' h3 h3' hx hy
        simp only [Nat.mul_one, Nat.add_zero] at c0 c0'
        by_cases he : x = y
        · have h0 : (x.toList == y.toList) = true := by rw [he]; exact beq_self_eq_true _
          have h00 : (x.toList != y.toList) = false := by rw [he]; simp
          have HE := Lib.hid he
          clear he
          go_wp2
          go_quiet (fail)
          go_wp2
          go_roundw
          case rel => exact ⟨k + 1, _, by omega, by go_num, rfl, take_eq_succ hlt hlm H.out (by rw [← HX.out, ← HY.out]; exact HE.out)⟩
          case measure => simp [intOf]; omega
        · have h0 : (x.toList == y.toList) = false := by rw [beq_toList]; exact decide_eq_false (fun e => he (by rw [← mk_bs x, ← mk_bs y, e]))
          have h00 : (x.toList != y.toList) = true := by rw [bne, h0]; rfl
          have HE := Lib.hid he
          clear he
          go_wp2
          go_quiet (fail)
          go_wp2
          go_ret
          exact ⟨ret_bool (decide_eq_false (ne_at hlt hlm (by rw [← HX.out, ← HY.out]; exact HE.out))).symm, dd _ _ _⟩
      · go_wp2
        go_ret
        exact ⟨ret_bool (decide_eq_true (eq_of_take HL.out (by omega) H.out)).symm, _, rfl⟩
  · have hl0 : ((L.length : Int) != (M.length : Int)) = true := by rw [bne_iff_ne]; omega
    go_enter Tryd.func22, Tryd.ntmps22
    go_wp2
    go_ret
    exact ⟨ret_bool (decide_eq_false (ne_len hl)).symm, 0, rfl⟩
theorem equalTexts_same {lo hi lo' hi' : Nat} (v u : Value) (L : List (List UInt8)) (w : World) (hv : SlR w lo hi 1 eL v L) (hu : SlR w lo' hi' 1 eL u L) :
    Calls Tryd.prog 22 #[v, u] w fun e w' => e = .returned (.bool true) ∧ Gr w w' := by
  refine (equalTexts_any v u _ _ w (slr_eS hv) (slr_eS hu)).mono ?_
  rintro e w' ⟨rfl, n, rfl⟩
  exact ⟨ret_bool (decide_eq_true rfl), below_drewN (Gr.rfl' w) n⟩
end Go.Proofs.YtipklobcfmcebaaDoor
