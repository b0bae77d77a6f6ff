/-
  Walks on names, further: names resolved, relative names, names above, the package in common.
-/
import Derived.Test.YtajbamcfkgkhpaaDoorNamesB
import Derived.Test.YtajbamcfkgkhpaaDoorPlainD
namespace Imp
open Go
theorem underP_nil_r (s : List UInt8) : underP s [] = true := rfl
theorem vPkg_cases {l : List UInt8} (h : vPkg l = true) : l = [] ∨ vName l = true := by
  unfold vPkg at h
  rw [Bool.or_eq_true, List.isEmpty_iff] at h
  exact h
def resP (p : List UInt8) (level : Nat) (s : List UInt8) : List UInt8 :=
  if level = 0 then s else if (upP (level - 1) p).isEmpty then [] else childD (upP (level - 1) p) s
where childD (b s : List UInt8) : List UInt8 := if s.isEmpty then b else b ++ 46 :: s
def okRes (p : List UInt8) (level : Int) (s : List UInt8) : Bool := vPkg p && vPkg s && (decide (0 ≤ level) && decide (level ≤ 4))
def fRes (p : List UInt8) (level : Int) (s : List UInt8) : List UInt8 :=
  if okRes p level s then (if vName (resP p level.toNat s) then resP p level.toNat s else []) else []
end Imp
namespace Go.Proofs.YtajbamcfkgkhpaaDoor
open Go Go.RowKit Imp
set_option linter.unusedVariables false

theorem ret_ss {a b c d : Value} (h : a = c) (k : b = d) : Ending.returned (.tuple #[a, b]) = .returned (.tuple #[c, d]) := by rw [h, k]

theorem sbase_any (p : ByteArray) (level : Nat) (w : World) (hp : vPkg (bs p) = true) (h1 : 1 ≤ level) (h4 : level ≤ 4) :
    Calls Tryd.prog 103 #[.string p, .int .i64 level] w fun e w' => ∃ y : ByteArray, e = .returned (.tuple #[.string y, .bool (!(bs y).isEmpty)]) ∧ bs y = upP (level - 1) (bs p) ∧ Gr w w' := by
  go_enter Tryd.func103, Tryd.ntmps103
  go_wp2
  go_loopw [0, 6] (fun x i wr => ∃ j : Nat, ∃ y : ByteArray, 1 ≤ j ∧ j ≤ level ∧ i = .int .i64 j ∧ x = .string y ∧ vPkg (bs y) = true ∧ upP (level - j) (bs y) = upP (level - 1) (bs p) ∧ Gr w wr) (fun _ i _ => level - (intOf i).toNat)
  case atStart => exact ⟨1, p, Nat.le_refl _, h1, rfl, rfl, hp, rfl, Gr.rfl' _⟩
  case round =>
    obtain ⟨j, y, hj1, hj, rfl, rfl, hy, hup, hgr⟩ := hrel
    have HU := Lib.hid hup
    have hys : y.size ≤ 11 := by have := vPkg_length hy; rw [bs_length] at this; exact this
    have hey := isEmpty_toList y
    clear hup
    by_cases hlt : (j : Int) < (level : Int)
    · by_cases he : (bs y).isEmpty = true
      · rw [he] at hey
        go_wp2
        go_ret2
        have hy0 : bs y = [] := List.isEmpty_iff.1 he
        refine ⟨ByteArray.empty, rfl, ?_, hgr⟩
        rw [← HU.out, hy0, upP_nil]; rfl
      · have he' : (bs y).isEmpty = false := (Bool.not_eq_true _).mp he
        rw [he'] at hey
        go_wp2_with fail
        refine (sparent_any y _ (by omega)).mono ?_
        rintro e w2 ⟨rfl, hb2⟩
        go_wp2
        go_roundw
        case rel =>
          refine ⟨j + 1, mk (parentP (bs y)), by omega, by omega, by go_num, rfl, ?_, ?_, hgr.tr hb2⟩
          · rw [bs_mk]
            rcases vPkg_cases hy with h | h
            · rw [h] at he'; cases he'
            · exact parent_pkg h
          · rw [bs_mk, ← HU.out, show level - j = (level - (j + 1)) + 1 by omega]; rfl
        case measure => simp [intOf]; omega
    · have hjl : j = level := by omega
      subst hjl
      go_wp2
      go_ret2
      refine ⟨y, ret_ss rfl (congrArg Value.bool (by simp)), ?_, hgr⟩
      rw [← HU.out, Nat.sub_self]; rfl
theorem sresolve_any (p : ByteArray) (level : Nat) (s : ByteArray) (w : World) (hp : vPkg (bs p) = true) (hs : vPkg (bs s) = true) (h4 : level ≤ 4) :
    Calls Tryd.prog 73 #[.string p, .int .i64 level, .string s] w fun e w' => ∃ y : ByteArray, e = .returned (.string y) ∧ bs y = resP (bs p) level (bs s) ∧ Gr w w' := by
  by_cases h0 : level = 0
  · subst h0
    go_enter Tryd.func73, Tryd.ntmps73
    go_wp2
    go_ret
    exact ⟨s, rfl, rfl, Gr.rfl' _⟩
  · have h0' : ((level : Int) == 0) = false := by rw [beq_eq_false_iff_ne]; omega
    have hss : s.size ≤ 11 := by have := vPkg_length hs; rw [bs_length] at this; exact this
    have hes := isEmpty_toList s
    have hres : resP (bs p) level (bs s) = if (upP (level - 1) (bs p)).isEmpty then [] else resP.childD (upP (level - 1) (bs p)) (bs s) := by rw [resP, if_neg h0]
    have HR := Lib.hid hres
    clear hres
    go_enter Tryd.func73, Tryd.ntmps73
    go_wp2_with fail
    refine (sbase_any p level _ hp (by omega) h4).mono ?_
    rintro e w1 ⟨y, rfl, hy, hb1⟩
    have hyk : vPkg (bs y) = true := by rw [hy]; exact upP_pkg _ hp
    have hys : y.size ≤ 11 := by have := vPkg_length hyk; rw [bs_length] at this; exact this
    have HY := Lib.hid hy
    clear hy
    by_cases he : (bs y).isEmpty = true
    · have HE := Lib.hid he
      go_wp2
      go_ret
      exact ⟨ByteArray.empty, rfl, by rw [HR.out, ← HY.out, he]; rfl, hb1⟩
    · have he' : (bs y).isEmpty = false := (Bool.not_eq_true _).mp he
      by_cases hse : (bs s).isEmpty = true
      · rw [hse] at hes
        go_wp2
        go_ret
        exact ⟨y, rfl, by rw [HR.out, ← HY.out, he', resP.childD, hse]; rfl, hb1⟩
      · have hse' : (bs s).isEmpty = false := (Bool.not_eq_true _).mp hse
        rw [hse'] at hes
        go_wp2_with fail
        refine (schild_any y s _ (by omega) (by omega)).mono ?_
        rintro e w2 ⟨rfl, rfl⟩
        go_wp2
        go_ret
        exact ⟨_, rfl, by rw [HR.out, ← HY.out, he', resP.childD, hse', bs_mk, childP, he']; rfl, hb1⟩
theorem okRes_bad1 {p : List UInt8} {l : Int} {s : List UInt8} (h : vPkg p = false) : fRes p l s = [] := by simp [fRes, okRes, h]
theorem okRes_bad2 {p : List UInt8} {l : Int} {s : List UInt8} (h : vPkg s = false) : fRes p l s = [] := by simp [fRes, okRes, h]
theorem okRes_bad3 {p : List UInt8} {l : Int} {s : List UInt8} (h : (decide (0 ≤ l) && decide (l ≤ 4)) = false) : fRes p l s = [] := by simp only [fRes, okRes, h, Bool.and_false]; rfl
theorem sResolveName_any (p : ByteArray) (level : Int) (s : ByteArray) (w : World) (hp : p.size ≤ 4194304) (hs : s.size ≤ 4194304) :
    Calls Tryd.prog 27 #[.string p, .int .i64 level, .string s] w fun e w' => e = .returned (.string (mk (fRes (bs p) level (bs s)))) ∧ Gr w w' := by
  by_cases h1 : vPkg (bs p) = true
  · by_cases h2 : vPkg (bs s) = true
    · by_cases h3 : (decide (0 ≤ level) && decide (level ≤ 4)) = true
      · have hl : 0 ≤ level ∧ level ≤ 4 := by simpa using h3
        obtain ⟨n, rfl⟩ : ∃ n : Nat, level = n := ⟨level.toNat, by omega⟩
        have hf : fRes (bs p) n (bs s) = if vName (resP (bs p) n (bs s)) then resP (bs p) n (bs s) else [] := by
          rw [fRes, okRes, h1, h2, h3]; rfl
        obtain ⟨R, hR⟩ : ∃ R, R = mk (fRes (bs p) n (bs s)) := ⟨_, rfl⟩
        rw [← hR]
        have HF := Lib.hid (hR.trans (congrArg mk hf))
        clear hf hR
        go_enter Tryd.func27, Tryd.ntmps27
        go_wp2_with fail
        refine (svalidPackage_any _ _ (by omega)).mono ?_
        rintro e w1 ⟨rfl, hb1⟩
        go_wp2_with fail
        refine (svalidPackage_any _ _ (by omega)).mono ?_
        rintro e w2 ⟨rfl, hb2⟩
        go_wp2_with fail
        refine (inRange_any _ _ _ _).mono ?_
        rintro e w3 ⟨rfl, rfl⟩
        go_wp2_with fail
        refine (sresolve_any p n s _ h1 h2 (by omega)).mono ?_
        rintro e w4 ⟨y, rfl, hy, hb4⟩
        have hyz : y.size ≤ 16777216 := by
          have hu := vPkg_length (upP_pkg (n - 1) h1)
          have hs2 := vPkg_length h2
          have : (bs y).length ≤ 30 := by
            rw [hy, resP]
            split
            · omega
            · split
              · simp
              · rw [resP.childD]
                split
                · omega
                · rw [List.length_append, List.length_cons]; omega
          rw [bs_length] at this; omega
        have HY := Lib.hid hy
        clear hy
        by_cases hn : vName (bs y) = true
        · go_wp2_with fail
          refine (svalidName_any _ _ hyz).mono ?_
          rintro e w5 ⟨rfl, hb5⟩
          go_wp2
          go_ret
          exact ⟨ret_str (by rw [HF.out, ← HY.out, hn, if_pos rfl, mk_bs]), ((hb1.tr hb2).tr hb4).tr hb5⟩
        · have hn' : vName (bs y) = false := (Bool.not_eq_true _).mp hn
          go_wp2_with fail
          refine (svalidName_any _ _ hyz).mono ?_
          rintro e w5 ⟨rfl, hb5⟩
          go_wp2
          go_ret
          exact ⟨ret_str (by rw [HF.out, ← HY.out, hn']; rfl), ((hb1.tr hb2).tr hb4).tr hb5⟩
      · have h3' : (decide (0 ≤ level) && decide (level ≤ 4)) = false := (Bool.not_eq_true _).mp h3
        rw [okRes_bad3 h3']
        go_enter Tryd.func27, Tryd.ntmps27
        go_wp2_with fail
        refine (svalidPackage_any _ _ (by omega)).mono ?_
        rintro e w1 ⟨rfl, hb1⟩
        go_wp2_with fail
        refine (svalidPackage_any _ _ (by omega)).mono ?_
        rintro e w2 ⟨rfl, hb2⟩
        go_wp2_with fail
        refine (inRange_any _ _ _ _).mono ?_
        rintro e w3 ⟨rfl, rfl⟩
        rw [h3']
        go_wp2
        go_ret
        exact ⟨rfl, hb1.tr hb2⟩
    · have h2' : vPkg (bs s) = false := (Bool.not_eq_true _).mp h2
      rw [okRes_bad2 h2']
      go_enter Tryd.func27, Tryd.ntmps27
      go_wp2_with fail
      refine (svalidPackage_any _ _ (by omega)).mono ?_
      rintro e w1 ⟨rfl, hb1⟩
      go_wp2_with fail
      refine (svalidPackage_any _ _ (by omega)).mono ?_
      rintro e w2 ⟨rfl, hb2⟩
      go_wp2
      go_ret
      exact ⟨rfl, hb1.tr hb2⟩
  · have h1' : vPkg (bs p) = false := (Bool.not_eq_true _).mp h1
    rw [okRes_bad1 h1']
    go_enter Tryd.func27, Tryd.ntmps27
    go_wp2_with fail
    refine (svalidPackage_any _ _ (by omega)).mono ?_
    rintro e w1 ⟨rfl, hb1⟩
    go_wp2
    go_ret
    exact ⟨rfl, hb1⟩
end Go.Proofs.YtajbamcfkgkhpaaDoor
