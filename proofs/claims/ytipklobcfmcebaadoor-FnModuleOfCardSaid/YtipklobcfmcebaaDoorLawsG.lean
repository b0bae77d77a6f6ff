/-
  Walks: the package in common; the laws on names resolved, relative names and the package in common.
-/
import Derived.Test.YtipklobcfmcebaaDoorNamesF
import Derived.Test.YtipklobcfmcebaaDoorLawsF
namespace Go.Proofs.YtipklobcfmcebaaDoor
open Go Go.RowKit Imp
set_option linter.unusedVariables false

theorem fCommon_bad2 {a b : List UInt8} (h : vName b = false) : fCommon a b = [] := by
  unfold fCommon
  rw [filter_false (fun x _ => by rw [fUnder, h]; rfl)]; rfl
theorem fCommon_bad1 {a b : List UInt8} (h : vName a = false) : fCommon a b = [] := by
  unfold fCommon
  rw [fAbove, h]; rfl
theorem fAbove_small (s : List UInt8) : (fAbove s).length ≤ 3 ∧ ∀ n ∈ fAbove s, n.length ≤ 11 ∧ vName n = true := by
  unfold fAbove
  split
  · rename_i h
    refine ⟨by unfold aboveP; rw [List.length_map, List.length_range]; exact (vName_parts h).1, fun n hn => ?_⟩
    have := above_name h n hn
    exact ⟨vName_length this, this⟩
  · exact ⟨by simp, by simp⟩

theorem sCommonPackage_any (a b : ByteArray) (w : World) (ha : a.size ≤ 4194304) (hb : b.size ≤ 4194304) :
    Calls Tryd.prog 17 #[.string a, .string b] w fun e w' => e = .returned (.string (mk (fCommon (bs a) (bs b)))) ∧ Gr w w' := by
  obtain ⟨R, hR⟩ : ∃ R, R = mk (fCommon (bs a) (bs b)) := ⟨_, rfl⟩
  rw [← hR]
  by_cases h1 : vName (bs a) = true
  · by_cases h2 : vName (bs b) = true
    · have hab := sabove_any a
      have hsml := fAbove_small (bs a)
      have he : fAbove (bs a) = aboveP (bs a) := by rw [fAbove, h1]; rfl
      rw [fCommon, he] at hR
      rw [he] at hsml
      obtain ⟨h3, hn⟩ := hsml
      generalize aboveP (bs a) = A at hab hR h3 hn
      have HR := Lib.hid hR
      have HN := Lib.hid hn
      clear hR hn he
      go_enter Tryd.func17, Tryd.ntmps17
      go_wp2_with fail
      refine (svalidName_any _ _ (by omega)).mono ?_
      rintro e w1 ⟨rfl, hb1⟩
      go_wp2_with fail
      refine (svalidName_any _ _ (by omega)).mono ?_
      rintro e w2 ⟨rfl, hb2⟩
      go_wp2_with fail
      refine (hab _ h1).mono ?_
      rintro e w3 ⟨v, rfl, hown, hb3⟩
      have hr := hown.reads (fun _ _ => rfl)
      obtain ⟨ad, c, rfl, hc1, hc2, hcell⟩ := hr
      unfold maxLen at hc2
      have hgr := (hb1.tr hb2).tr hb3
      have hwr0 : IntKind.i64.wrap ((A.length : Int) - 1) = (A.length : Int) - 1 := IntWalk.i64_in _ (by omega)
      go_wp2
      go_loop [6] (fun i => ∃ k : Nat, k ≤ A.length ∧ i = .int .i64 ((k : Int) - 1) ∧ (A.drop k).filter (fUnder (bs b)) = []) (fun i => (intOf i + 1).toNat)
      case atStart => exact ⟨A.length, Nat.le_refl _, rfl, by simp⟩
      case round =>
        obtain ⟨k, hk, rfl, hfl⟩ := hrel
        have HF := Lib.hid hfl
        clear hfl
        by_cases hlt : 0 ≤ (k : Int) - 1
        · obtain ⟨m, rfl⟩ : ∃ m, k = m + 1 := ⟨k - 1, by omega⟩
          have hm : m < A.length := by omega
          have e1 : ((m + 1 : Nat) : Int) - 1 = (m : Int) := by omega
          rw [e1]
          obtain ⟨bk, o, rfl, _, hc⟩ := hcell m hm
          obtain ⟨y, hy⟩ : ∃ y, y = mk A[m] := ⟨_, rfl⟩
          have hyb : bs y = A[m] := by rw [hy]
          have c0 : w3.cell? ⟨bk, o + m, none⟩ = some (.string y) := by rw [hy]; have := hc 0 _ rfl; simpa using this
          obtain ⟨hyl, hyn⟩ := HN.out A[m] (List.getElem_mem hm)
          rw [← hyb] at hyl hyn
          have hys : y.size ≤ 11 := by rw [bs_length] at hyl; exact hyl
          have hun := fUnder_name h2 hyn
          have HY := Lib.hid hyb
          have hwr1 : IntKind.i64.wrap ((m : Int) - 1) = (m : Int) - 1 := IntWalk.i64_in _ (by omega)
          have hm0 : 0 ≤ (m : Int) := by omega
          clear hlt e1 hc hcell hy hyb hyn hyl
          by_cases hu : underP (bs b) (bs y) = true
          · go_wp2_with fail
            refine (sunder_any _ _ _ (by omega) (by omega)).mono ?_
            rintro e w4 ⟨rfl, rfl⟩
            go_wp2
            go_ret
            exact ⟨ret_str (by rw [HR.out, last_found hm HF.out (by rw [← HY.out, hun]; exact hu), ← HY.out, mk_bs]), hgr⟩
          · have hu' : underP (bs b) (bs y) = false := (Bool.not_eq_true _).mp hu
            go_wp2_with fail
            refine (sunder_any _ _ _ (by omega) (by omega)).mono ?_
            rintro e w4 ⟨rfl, rfl⟩
            go_wp2
            go_round
            case rel => exact ⟨m, by omega, rfl, last_step hm HF.out (by rw [← HY.out, hun]; exact hu')⟩
            case measure => simp [intOf] <;> omega
        · have hk0 : k = 0 := by omega
          subst hk0
          go_wp2
          go_ret
          have := HF.out
          rw [List.drop_zero] at this
          exact ⟨ret_str (by rw [HR.out, this]; rfl), hgr⟩
    · have h2' : vName (bs b) = false := (Bool.not_eq_true _).mp h2
      rw [fCommon_bad2 h2'] at hR
      have HR := Lib.hid hR
      clear hR
      go_enter Tryd.func17, Tryd.ntmps17
      go_wp2_with fail
      refine (svalidName_any _ _ (by omega)).mono ?_
      rintro e w1 ⟨rfl, hb1⟩
      go_wp2_with fail
      refine (svalidName_any _ _ (by omega)).mono ?_
      rintro e w2 ⟨rfl, hb2⟩
      go_wp2
      go_ret
      exact ⟨ret_str HR.out.symm, hb1.tr hb2⟩
  · have h1' : vName (bs a) = false := (Bool.not_eq_true _).mp h1
    rw [fCommon_bad1 h1'] at hR
    have HR := Lib.hid hR
    clear hR
    go_enter Tryd.func17, Tryd.ntmps17
    go_wp2_with fail
    refine (svalidName_any _ _ (by omega)).mono ?_
    rintro e w1 ⟨rfl, hb1⟩
    go_wp2
    go_ret
    exact ⟨ret_str HR.out.symm, hb1⟩
theorem iCommonPackage_any (a b : ByteArray) (w : World) (ha : a.size ≤ 4194304) (hb : b.size ≤ 4194304) (hok : OkW w) :
    Calls Tryd.prog 16 #[.string a, .string b] w fun e w' => e = .returned (.string (mk (fCommon (bs a) (bs b)))) ∧ Gr w w' := by
  obtain ⟨R, hR⟩ : ∃ R, R = mk (fCommon (bs a) (bs b)) := ⟨_, rfl⟩
  rw [← hR]
  have hab := fun w h => iNamesAbove_any a w (by omega) h
  obtain ⟨h3, hn⟩ := fAbove_small (bs a)
  rw [fCommon] at hR
  generalize fAbove (bs a) = A at hab hR h3 hn
  have HR := Lib.hid hR
  have HN := Lib.hid hn
  clear hR hn
  go_enter Tryd.func16, Tryd.ntmps16
  go_wp2_with fail
  refine (hab _ hok).mono ?_
  rintro e w3 ⟨v, rfl, hown, hgr3⟩
  have hr := hown.reads (fun _ _ => rfl)
  obtain ⟨ad, c, rfl, hc1, hc2, hcell⟩ := hr
  unfold maxLen at hc2
  go_wp2
  go_loopw [5, 11] (fun o i wr => ∃ k : Nat, ∃ x : ByteArray, k ≤ A.length ∧ i = .int .i64 k ∧ o = .string x ∧ x = mk (((A.take k).filter (fUnder (bs b))).getLastD []) ∧ Gr w wr ∧ Same w.heap.size w3.heap.size w3 wr ∧ w3.heap.size ≤ wr.heap.size) (fun _ i _ => A.length - (intOf i).toNat)
  case atStart => exact ⟨0, ByteArray.empty, Nat.zero_le _, rfl, rfl, rfl, hgr3, Same.refl _ _ _, Nat.le_refl _⟩
  case round =>
    obtain ⟨k, x, hk, rfl, rfl, hx, hgr, hsame, hw3⟩ := hrel
    have HX := Lib.hid hx
    clear hx
    have hokr := hok.gr hgr
    by_cases hlt : k < A.length
    · obtain ⟨bk, o, rfl, hbk, hc⟩ := hcell k hlt
      obtain ⟨y, hy⟩ : ∃ y, y = mk A[k] := ⟨_, rfl⟩
      have hyb : bs y = A[k] := by rw [hy]
      have c0 : wr.cell? ⟨bk, o + k, none⟩ = some (.string y) := by
        rw [hsame.cell hbk.1 hbk.2, hy]; have := hc 0 _ rfl; simpa using this
      obtain ⟨hyl, hyn⟩ := HN.out A[k] (List.getElem_mem hlt)
      rw [← hyb] at hyl hyn
      have hys : y.size ≤ 11 := by rw [bs_length] at hyl; exact hyl
      have HY := Lib.hid hyb
      have hnx := last_next (f := fUnder (bs b)) hlt
      rw [← hyb] at hnx
      have HNX := Lib.hid hnx
      have hws := hgr.size
      clear hc hcell hy hyb hyn hyl hnx
      by_cases hu : fUnder (bs b) (bs y) = true
      · go_wp2_with fail
        refine (iIsUnder_any _ _ _ (by omega) (by omega) hokr).mono ?_
        rintro e w4 ⟨rfl, hb4⟩
        go_wp2
        go_roundw
        case rel => exact ⟨k + 1, y, by omega, by go_num, rfl, by rw [HNX.out, hu, if_pos rfl, mk_bs], hgr.tr hb4, hsame.trans (Same.of_below hb4 hw3), Nat.le_trans hw3 hb4.size⟩
        case measure => simp [intOf]; omega
      · have hu' : fUnder (bs b) (bs y) = false := (Bool.not_eq_true _).mp hu
        go_wp2_with fail
        refine (iIsUnder_any _ _ _ (by omega) (by omega) hokr).mono ?_
        rintro e w4 ⟨rfl, hb4⟩
        go_wp2
        go_roundw
        case rel => exact ⟨k + 1, x, by omega, by go_num, rfl, by rw [HNX.out, hu', if_neg (by simp), HX.out], hgr.tr hb4, hsame.trans (Same.of_below hb4 hw3), Nat.le_trans hw3 hb4.size⟩
        case measure => simp [intOf]; omega
    · go_wp2
      go_ret
      exact ⟨ret_str (by rw [HX.out, HR.out, List.take_of_length_le (by omega)]), hgr⟩
end Go.Proofs.YtipklobcfmcebaaDoor
