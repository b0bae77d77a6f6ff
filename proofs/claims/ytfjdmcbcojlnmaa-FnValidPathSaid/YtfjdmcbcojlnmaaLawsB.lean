/-
  Walks of the laws over a code of bytes, over a seat without package variables.
-/
import Derived.Test.YtfjdmcbcojlnmaaLawsA
import Derived.Test.YtfjdmcbcojlnmaaReader
import Derived.Test.YtfjdmcbcojlnmaaApp
namespace Go.Proofs.Ytfjdmcbcojlnmaa
open Go Go.RowKit Imp

theorem ti_ints : TI Try.prog 24 3 1 8 := TI.mk' (z := .int .i64 0) Try.underlying24 (by kernel_rfl) rfl (by decide)

theorem walk_FnValidPath (w : World) (v : Value) (L : List UInt8) (hv : SlR w 0 w.heap.size 1 eB v L) :
    Calls Try.prog 6 #[v] w fun e w' => e = .returned (.bool true) ∧ Below w.heap.size w w' := by
  have hlen := hv.len_le
  have hv0 := hv
  obtain ⟨a, c, rfl, _, _⟩ := hv.form
  unfold maxLen at hlen
  by_cases hbig : L.length ≤ 1048576
  · have hd : decide ((1048576 : Int) < (L.length : Int)) = false := decide_eq_false (by omega)
    go_enter Try.func6, Try.ntmps6
    go_wp2_with fail
    refine (DrawValidPath_any _ L _ hv0 (Nat.le_refl _) hbig).mono ?_
    rintro e w1 ⟨u, M, rfl, hM, hMl, hb1⟩
    go_wp2_with fail
    refine (iValidPath_any _ M _ hM).mono ?_
    rintro e w2 ⟨rfl, rfl⟩
    go_wp2_with fail
    refine (sValidPath_any _ M _ hM).mono ?_
    rintro e w2 ⟨rfl, n2, rfl⟩
    have hM2 := hM.drewN n2
    have hb2 := below_drewN hb1 n2
    by_cases hp : vPath M = true
    · obtain ⟨a', c', rfl, hc1, hc2⟩ := hM2.form
      go_wp2
      go_loopw [5] (fun i wr => ∃ k : Nat, k ≤ M.length ∧ i = .int .i64 k ∧ Same w.heap.size w1.heap.size (w1.drewN n2) wr ∧ Below w.heap.size w wr ∧ w1.heap.size ≤ wr.heap.size) (fun i _ => M.length - (intOf i).toNat)
      case atStart => exact ⟨0, Nat.zero_le _, rfl, Same.refl _ _ _, hb2, Nat.le_refl _⟩
      case round =>
        obtain ⟨k, hk, rfl, hsame, hbel, hsz⟩ := hrel
        have hMr := hM2.keep hsame
        by_cases hlt : k < M.length
        · have s1 := hMr.take k (by omega)
          have s2 := hMr.drop1 k hlt
          simp only [Nat.mul_one] at s2
          have hkc : k ≤ c' := by omega
          have hwr : IntKind.i64.wrap ((k : Int) + 1) = (k : Int) + 1 := IntWalk.i64_in _ (by omega)
          have hn1 : ((k : Int) + 1).toNat = k + 1 := by omega
          have hk1 : k + 1 ≤ M.length := by omega
          have hk0 : 0 ≤ (k : Int) + 1 := by omega
          have hk2 : (k : Int) + 1 ≤ (M.length : Int) := by omega
          obtain ⟨A2, hA2⟩ : ∃ A2, (if c' = k + 1 then a' else Option.map (fun x => ({ block := x.block, off := x.off + (k + 1) } : Addr)) a') = A2 := ⟨_, rfl⟩
          rw [hA2] at s2
          have hv1 := vPath_without hp k hlt
          have HV := Lib.hid hv1
          clear hv1
          go_wp2
          go_region_law (first
            | (refine step_app _ rfl (.tmp 31) (.tmp 34) ti_ints rfl (by simp [Act.eval]) (Own.empty wr wr.heap.size 3 1 eI (Nat.le_refl _)) (by simp [Act.eval]) (s1.keep (Same.alloc wr _ (by omega))) (fun _ _ => rfl) (by simp [eI, Value.oneCell']) (by unfold maxLen; simp; omega) (by simp; omega) (by simp) ?_
               intro v1 w2 hown1 hg1 hat1
               have hbw : Below wr.heap.size wr w2 := (((Below.refl _ wr).alloc (Nat.le_refl _) _).drew).grown hg1 (by simp) (by simp [Value.ownBlock])
               have s2' := s2.below hbw (by omega)
               have hbz := hbw.size)
            | (refine step_app _ rfl (.tmp 35) (.tmp 39) ti_ints rfl (by simp [Act.eval]) hown1 (by simp [Act.eval]) s2' (fun _ _ => rfl) (by simp [eI, Value.oneCell']) (by unfold maxLen; simp; omega) (by simp; omega) hbz ?_
               intro v2 w3 hown2 hg2 hat2)
            | (go_simp
               go_at_call 11
               refine (iValidPath_any _ (M.take k ++ M.drop (k + 1)) _ (hown2.reads (fun _ _ => rfl))).mono ?_
               rintro e w4 ⟨rfl, rfl⟩
               rw [HV.out]))
          go_wp2
          go_roundw
          case rel =>
            have hbx : Below wr.heap.size wr w3 := hbw.grown hg2 hbz (fun b hb => (hown1.block b hb).1)
            exact ⟨k + 1, by omega, by go_num, hsame.trans (Same.of_below hbx (by omega)), hbel.trans (hbx.mono hbel.size), by have := hbx.size; omega⟩
          case measure => simp [intOf]; omega
        · go_wp2
          go_ret
          have h3 : (M.length : Int) ≤ 3 := by omega
          exact ⟨ret_bool (by simp [h3]), hbel⟩
    · have hp' : vPath M = false := (Bool.not_eq_true _).mp hp
      go_wp2_with fail
      refine (sValidPath_any _ M _ hM2).mono ?_
      rintro e w3 ⟨rfl, n3, rfl⟩
      go_wp2
      go_ret
      exact ⟨ret_bool (by simp), below_drewN hb1 _⟩
  · go_enter Try.func6, Try.ntmps6
    go_wp2
    go_ret
    exact ⟨rfl, Below.refl _ _⟩
end Go.Proofs.Ytfjdmcbcojlnmaa
