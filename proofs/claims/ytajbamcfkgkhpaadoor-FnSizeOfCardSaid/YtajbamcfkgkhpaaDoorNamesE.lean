/-
  Walks on names, further: relative names.
-/
import Derived.Test.YtajbamcfkgkhpaaDoorNamesD
namespace Go.Proofs.YtajbamcfkgkhpaaDoor
open Go Go.RowKit Imp
set_option linter.unusedVariables false

theorem fRelV_bad1 {p s : List UInt8} (h : vName p = false) : fRelV p s = (0, []) := by simp [fRelV, h]
theorem fRelV_bad2 {p s : List UInt8} (h : vName s = false) : fRelV p s = (0, []) := by simp [fRelV, h]
theorem fRelV_ok {p s : List UInt8} (h : vName p = true) (k : vName s = true) : fRelV p s = relP 3 1 p s := by simp [fRelV, h, k]
def relVal (p s : List UInt8) : Value := .tuple #[.int .i64 (fRelV p s).1, .string (mk (fRelV p s).2)]
theorem relVal_of {p s : List UInt8} {n : Nat} {l : List UInt8} (h : fRelV p s = (n, l)) {m : Int} {t : ByteArray} (hm : m = n) (ht : t = mk l) : Ending.returned (.tuple #[.int .i64 m, .string t]) = .returned (relVal p s) := by
  rw [relVal, h, hm, ht]

theorem sRelativeName_any (p s : ByteArray) (w : World) (hp : p.size ≤ 4194304) (hs : s.size ≤ 4194304) :
    Calls Tryd.prog 37 #[.string p, .string s] w fun e w' => e = .returned (relVal (bs p) (bs s)) ∧ Gr w w' := by
  by_cases h1 : vName (bs p) = true
  · by_cases h2 : vName (bs s) = true
    · have hss : s.size ≤ 11 := by have := vName_length h2; rw [bs_length] at this; exact this
      have hfr := fRelV_ok h1 h2
      have HF := Lib.hid hfr
      clear hfr
      go_enter Tryd.func37, Tryd.ntmps37
      go_wp2_with fail
      refine (svalidName_any _ _ (by omega)).mono ?_
      rintro e w1 ⟨rfl, hb1⟩
      go_wp2_with fail
      refine (svalidName_any _ _ (by omega)).mono ?_
      rintro e w2 ⟨rfl, hb2⟩
      go_wp2
      have hb2' := hb1.tr hb2
      go_loopw [0, 6] (fun x l wr => ∃ n lev : Nat, ∃ y : ByteArray, x = .string y ∧ l = .int .i64 lev ∧ RelAt (bs p) (bs s) (bs y) n lev ∧ Gr w wr) (fun _ l _ => 5 - (intOf l).toNat)
      case atStart => exact ⟨3, 1, p, rfl, rfl, RelAt.start h1, hb2'⟩
      case round =>
        obtain ⟨n, lev, y, rfl, rfl, hat, hgr⟩ := hrel
        have hlev : lev ≤ 4 := by have := hat.2.2; omega
        have hys : y.size ≤ 11 := by have := vPkg_length hat.pkg; rw [bs_length] at this; exact this
        have hey := isEmpty_toList y
        have HA := Lib.hid hat
        clear hat
        by_cases he : (bs y).isEmpty = true
        · have HE := Lib.hid he
          rw [he] at hey
          clear he
          go_wp2
          go_ret2
          exact ⟨relVal_of (HF.out.trans (HA.out.done HE.out)) rfl rfl, hgr⟩
        · have he' : (bs y).isEmpty = false := (Bool.not_eq_true _).mp he
          have HE := Lib.hid he'
          rw [he'] at hey
          have hyne : bs y ≠ [] := fun e => by rw [e] at he; exact he rfl
          have hsy := beq_toList s y
          by_cases hq : bs s = bs y
          · rw [decide_eq_true hq] at hsy
            have hu : underP (bs s) (bs y) = true := by rw [underP, hq]; simp
            have hr : fRelV (bs p) (bs s) = (lev, []) := by rw [HF.out.trans (HA.out.found he' hu), hq, List.drop_length]; rfl
            have HR := Lib.hid hr
            clear hr hu he he' hyne hq
            go_wp2
            go_ret2
            exact ⟨relVal_of HR.out rfl rfl, hgr⟩
          · rw [decide_eq_false hq] at hsy
            by_cases hu : underP (bs s) (bs y) = true
            · have hr := HF.out.trans (HA.out.found he' hu)
              rcases under_cases hyne hu with h | ⟨r, hr2⟩
              · exact absurd h hq
              · have hsz : y.size + 1 ≤ s.size := by have := congrArg List.length hr2; rw [bs_length, List.length_append, List.length_cons, bs_length] at this; omega
                have hx : s.extract (y.size + 1) s.size = mk ((bs s).drop (bs y).length |>.drop 1) := by
                  rw [Lib.extract_eq, List.drop_drop, bs_length]
                  rw [List.take_of_length_le (by rw [List.length_drop]; exact Nat.le_refl _)]
                have HX := Lib.hid hx
                have HR := Lib.hid hr
                have hwr : IntKind.i64.wrap ((y.size : Int) + 1) = (y.size : Int) + 1 := IntWalk.i64_in _ (by omega)
                have hn1 : ((y.size : Int) + 1).toNat = y.size + 1 := by omega
                have hk0 : 0 ≤ (y.size : Int) + 1 := by omega
                have hk2 : (y.size : Int) + 1 ≤ (s.size : Int) := by omega
                clear hr hx hr2 he he' hyne hq
                go_wp2_with fail
                refine (sunder_any _ _ _ (by omega) (by omega)).mono ?_
                rintro e w3 ⟨rfl, rfl⟩
                go_wp2
                go_region
                go_wp2
                go_ret2
                exact ⟨relVal_of HR.out rfl HX.out, Below.drew hgr⟩
            · have hu' : underP (bs s) (bs y) = false := (Bool.not_eq_true _).mp hu
              obtain ⟨m, hm, hstep⟩ := HA.out.step he' hu'
              have HS := Lib.hid hstep
              clear hstep he he' hyne hq
              go_wp2_with fail
              refine (sunder_any _ _ _ (by omega) (by omega)).mono ?_
              rintro e w3 ⟨rfl, rfl⟩
              go_wp2_with fail
              refine (sparent_any y _ (by omega)).mono ?_
              rintro e w4 ⟨rfl, hb4⟩
              go_wp2
              go_roundw
              case rel => exact ⟨m, lev + 1, mk (parentP (bs y)), rfl, by go_num, HS.out, hgr.tr hb4⟩
              case measure => simp [intOf]; omega
    · have h2' : vName (bs s) = false := (Bool.not_eq_true _).mp h2
      have hfr := fRelV_bad2 (p := bs p) h2'
      have HF := Lib.hid hfr
      clear hfr
      go_enter Tryd.func37, Tryd.ntmps37
      go_wp2_with fail
      refine (svalidName_any _ _ (by omega)).mono ?_
      rintro e w1 ⟨rfl, hb1⟩
      go_wp2_with fail
      refine (svalidName_any _ _ (by omega)).mono ?_
      rintro e w2 ⟨rfl, hb2⟩
      go_wp2
      go_ret2
      exact ⟨relVal_of HF.out rfl rfl, hb1.tr hb2⟩
  · have h1' : vName (bs p) = false := (Bool.not_eq_true _).mp h1
    have hfr := fRelV_bad1 (s := bs s) h1'
    have HF := Lib.hid hfr
    clear hfr
    go_enter Tryd.func37, Tryd.ntmps37
    go_wp2_with fail
    refine (svalidName_any _ _ (by omega)).mono ?_
    rintro e w1 ⟨rfl, hb1⟩
    go_wp2
    go_ret2
    exact ⟨relVal_of HF.out rfl rfl, hb1⟩
theorem trim_dot (l : List UInt8) : Lib.trimPrefix (46 :: l) [46] = l := by simp [Lib.trimPrefix, Lib.hasPrefix]
theorem trim_nil : Lib.trimPrefix [] [46] = [] := by simp [Lib.trimPrefix, Lib.hasPrefix]
theorem iRelativeName_any (p s : ByteArray) (w : World) (hp : p.size ≤ 4194304) (hs : s.size ≤ 4194304) (hok : OkW w) :
    Calls Tryd.prog 36 #[.string p, .string s] w fun e w' => e = .returned (relVal (bs p) (bs s)) ∧ Gr w w' := by
  by_cases h1 : vName (bs p) = true
  · by_cases h2 : vName (bs s) = true
    · have hss : s.size ≤ 11 := by have := vName_length h2; rw [bs_length] at this; exact this
      have hfr := fRelV_ok h1 h2
      have HF := Lib.hid hfr
      clear hfr
      go_enter Tryd.func36, Tryd.ntmps36
      go_wp2_with fail
      refine (iValidName_any _ _ (by omega) hok).mono ?_
      rintro e w1 ⟨rfl, hb1⟩
      go_wp2_with fail
      refine (iValidName_any _ _ (by omega) (hok.gr hb1)).mono ?_
      rintro e w2 ⟨rfl, hb2⟩
      go_wp2
      have hb2' := hb1.tr hb2
      go_loopw [0, 6] (fun x l wr => ∃ n lev : Nat, ∃ y : ByteArray, x = .string y ∧ l = .int .i64 lev ∧ RelAt (bs p) (bs s) (bs y) n lev ∧ Gr w wr) (fun _ l _ => 5 - (intOf l).toNat)
      case atStart => exact ⟨3, 1, p, rfl, rfl, RelAt.start h1, hb2'⟩
      case round =>
        obtain ⟨n, lev, y, rfl, rfl, hat, hgr⟩ := hrel
        have hokr := hok.gr hgr
        have hlev : lev ≤ 4 := by have := hat.2.2; omega
        have hpk := hat.pkg
        have hys : y.size ≤ 11 := by have := vPkg_length hpk; rw [bs_length] at this; exact this
        have hey := isEmpty_toList y
        have HA := Lib.hid hat
        clear hat
        by_cases he : (bs y).isEmpty = true
        · have HE := Lib.hid he
          rw [he] at hey
          clear he
          go_wp2
          go_ret2
          exact ⟨relVal_of (HF.out.trans (HA.out.done HE.out)) rfl rfl, hgr⟩
        · have he' : (bs y).isEmpty = false := (Bool.not_eq_true _).mp he
          rw [he'] at hey
          have hyne : bs y ≠ [] := fun e => by rw [e] at he; exact he rfl
          have hyn : vName (bs y) = true := by
            rcases vPkg_cases hpk with h | h
            · exact absurd h hyne
            · exact h
          have hfu : fUnder (bs s) (bs y) = underP (bs s) (bs y) := by rw [fUnder, h2, hpk]; rfl
          have hcu := fun w h => iIsUnder_any s y w (by omega) (by omega) h
          rw [hfu] at hcu
          clear hfu
          by_cases hu : underP (bs s) (bs y) = true
          · have hr := HF.out.trans (HA.out.found he' hu)
            have hsz : y.size ≤ s.size := by
              rcases under_cases hyne hu with h | ⟨r, hr2⟩
              · have := congrArg List.length h; rw [bs_length, bs_length] at this; omega
              · have := congrArg List.length hr2; rw [bs_length, List.length_append, List.length_cons, bs_length] at this; omega
            have hx : (⟨(Lib.trimPrefix (s.extract y.size s.size).data.toList (ByteArray.mk #[46]).data.toList).toArray⟩ : ByteArray) = mk ((bs s).drop (bs y).length |>.drop 1) := by
              have e1 : (s.extract y.size s.size).data.toList = (bs s).drop (bs y).length := by
                show bs _ = _
                rw [Lib.extract_eq, bs_mk, bs_length, List.take_of_length_le (by rw [List.length_drop]; exact Nat.le_refl _)]
              rw [e1, show (ByteArray.mk #[46]).data.toList = [46] from rfl]
              rcases under_cases hyne hu with h | ⟨r, hr2⟩
              · rw [h, List.drop_length, trim_nil]; rfl
              · rw [hr2, List.drop_left, trim_dot]; rfl
            have HX := Lib.hid hx
            have HR := Lib.hid hr
            rw [hu] at hcu
            clear hr hx he he' hyne hu
            go_wp2_with fail
            refine (hcu _ hokr).mono ?_
            rintro e w3 ⟨rfl, hb3⟩
            go_wp2_with fail
            refine (Tryd.strings_TrimPrefix _ _ _).mono ?_
            rintro e w4 ⟨rfl, rfl⟩
            rw [HX.out]
            go_wp2
            go_ret2
            exact ⟨relVal_of HR.out rfl (by rw [List.drop_drop, bs_length]), hgr.tr hb3⟩
          · have hu' : underP (bs s) (bs y) = false := (Bool.not_eq_true _).mp hu
            obtain ⟨m, hm, hstep⟩ := HA.out.step he' hu'
            have HS := Lib.hid hstep
            rw [hu'] at hcu
            clear hstep he he' hyne hu hu'
            go_wp2_with fail
            refine (hcu _ hokr).mono ?_
            rintro e w3 ⟨rfl, hb3⟩
            go_wp2_with fail
            refine (iParentOf_any y _ (by omega) (hokr.gr hb3)).mono ?_
            rintro e w4 ⟨rfl, hb4⟩
            go_wp2
            go_roundw
            case rel => exact ⟨m, lev + 1, mk (fParent (bs y)), rfl, by go_num, by rw [bs_mk, fParent, hyn, if_pos rfl]; exact HS.out, (hgr.tr hb3).tr hb4⟩
            case measure => simp [intOf]; omega
    · have h2' : vName (bs s) = false := (Bool.not_eq_true _).mp h2
      have hfr := fRelV_bad2 (p := bs p) h2'
      have HF := Lib.hid hfr
      clear hfr
      go_enter Tryd.func36, Tryd.ntmps36
      go_wp2_with fail
      refine (iValidName_any _ _ (by omega) hok).mono ?_
      rintro e w1 ⟨rfl, hb1⟩
      go_wp2_with fail
      refine (iValidName_any _ _ (by omega) (hok.gr hb1)).mono ?_
      rintro e w2 ⟨rfl, hb2⟩
      go_wp2
      go_ret2
      exact ⟨relVal_of HF.out rfl rfl, hb1.tr hb2⟩
  · have h1' : vName (bs p) = false := (Bool.not_eq_true _).mp h1
    have hfr := fRelV_bad1 (s := bs s) h1'
    have HF := Lib.hid hfr
    clear hfr
    go_enter Tryd.func36, Tryd.ntmps36
    go_wp2_with fail
    refine (iValidName_any _ _ (by omega) hok).mono ?_
    rintro e w1 ⟨rfl, hb1⟩
    go_wp2
    go_ret2
    exact ⟨relVal_of HF.out rfl rfl, hb1⟩
end Go.Proofs.YtajbamcfkgkhpaaDoor
