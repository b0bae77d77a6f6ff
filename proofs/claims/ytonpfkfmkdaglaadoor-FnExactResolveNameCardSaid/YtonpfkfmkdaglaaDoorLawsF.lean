/-
  Walks of the laws on drawn names: their last parts, parents and children.
-/
import Derived.Test.YtonpfkfmkdaglaaDoorDraw
import Derived.Test.YtonpfkfmkdaglaaDoorPlainD
import Derived.Test.YtonpfkfmkdaglaaDoorMark
namespace Go.Proofs.YtonpfkfmkdaglaaDoor
open Go Go.RowKit Imp
set_option linter.unusedVariables false

theorem beq_same (y : ByteArray) : (y.toList == y.toList) = true := beq_self_eq_true _
theorem bne_same (y : ByteArray) : (y.toList != y.toList) = false := by simp
theorem emp_of {y : ByteArray} {l : List UInt8} (h : bs y = l) : y.toList.isEmpty = l.isEmpty := by rw [isEmpty_toList, h]
theorem size_of {y : ByteArray} {l : List UInt8} (h : bs y = l) : y.size = l.length := by rw [← h, bs_length]
theorem emp_false {l : List UInt8} (h : l ≠ []) : l.isEmpty = false := by cases l with | nil => exact absurd rfl h | cons => rfl

theorem walk_FnLastOf (w : World) (hok : OkW w) (v : Value) (L : List UInt8) (hv : SlR w 0 w.heap.size 1 eB v L) :
    Calls Tryd.prog 5 #[v] w fun e w' => e = .returned (.bool true) ∧ Below w.heap.size w w' := by
  have hlen := hv.len_le
  have hv0 := hv
  obtain ⟨a, c, rfl, _, _⟩ := hv.form
  unfold maxLen at hlen
  by_cases hbig : L.length ≤ 1048576
  · have hd : decide ((1048576 : Int) < (L.length : Int)) = false := decide_eq_false (by omega)
    go_enter Tryd.func5, Tryd.ntmps5
    go_wp2_with fail
    refine (DrawLastOf_any _ L _ hv0 (Nat.le_refl _) hbig).mono ?_
    rintro e w1 ⟨s, rfl, hs, hb1⟩
    have hok := hok.gr hb1
    have h1 := fun w => sLastOf_any s w (by omega)
    have h2 := fun w h => iLastOf_any s w (by omega) h
    obtain ⟨y, hy⟩ : ∃ y, y = mk (fLast (bs s)) := ⟨_, rfl⟩
    rw [← hy] at h1 h2
    have hyb : bs y = fLast (bs s) := by rw [hy]
    have hye := emp_of hyb
    have HY := Lib.hid hyb
    have q1 := beq_same y
    have q2 := bne_same y
    clear hy hyb
    by_cases hn : vName (bs s) = true
    · have hl : fLast (bs s) = lastP (bs s) := by rw [fLast, hn]; rfl
      have hp : vPart (bs y) = true := by rw [HY.out, hl]; exact last_part hn
      rw [hl, emp_false (vPart_ne (last_part hn))] at hye
      have hys : y.size ≤ maxLen := by have := (vPart_length hp).2; rw [bs_length] at this; unfold maxLen; omega
      obtain ⟨hi, hx⟩ := fParts_last hn
      rw [← hl, ← HY.out] at hx
      have HX := Lib.hid hx
      have hl3 : (fParts (bs s)).length ≤ 3 := by unfold fParts; rw [hn]; exact (vName_parts hn).1
      have h3 := fun w h => iPartsOf_any s w (by omega) h
      generalize fParts (bs s) = Q at h3 hi HX hl3
      clear hl hx
      go_wp2_with fail
      refine (h2 _ hok).mono ?_
      rintro e w2 ⟨rfl, hb2⟩
      have hok := hok.gr hb2
      go_wp2_with fail
      refine (h1 _).mono ?_
      rintro e w3 ⟨rfl, hb3⟩
      have hok := hok.gr hb3
      go_wp2_with fail
      refine (h3 _ hok).mono ?_
      rintro e w4 ⟨v4, rfl, o4, hb4⟩
      have r4 := o4.reads (fun _ _ => rfl)
      obtain ⟨a4, c4, rfl, hc1, hc2, h4⟩ := r4
      unfold maxLen at hc2
      obtain ⟨b, o, rfl, _, hc⟩ := h4 (Q.length - 1) hi
      have c0 : w4.cell? ⟨b, o + (Q.length - 1), none⟩ = some (.string y) := by have := hc 0 (.string y) (by rw [HX.out, eL, mk_bs]; rfl); simpa using this
      have hq : IntKind.i64.wrap ((Q.length : Int) - 1) = (Q.length : Int) - 1 := IntWalk.i64_in _ (by omega)
      have hq1 : ((Q.length : Int) - 1).toNat = Q.length - 1 := by omega
      have hq2 : 0 ≤ (Q.length : Int) - 1 := by omega
      clear h4 hc
      go_wp2_with fail
      refine (iValidPart_any y _ hys).mono ?_
      rintro e w5 ⟨rfl, rfl⟩
      go_wp2
      go_ret
      exact ⟨rfl, ((hb1.tr hb2).tr hb3).tr hb4⟩
    · have hn' : vName (bs s) = false := (Bool.not_eq_true _).mp hn
      have hl : fLast (bs s) = [] := by rw [fLast, hn']; rfl
      rw [hl] at hye
      simp only [List.isEmpty_nil] at hye
      clear hl hn hn'
      go_wp2_with fail
      refine (h2 _ hok).mono ?_
      rintro e w2 ⟨rfl, hb2⟩
      go_wp2_with fail
      refine (h1 _).mono ?_
      rintro e w3 ⟨rfl, hb3⟩
      go_wp2_with fail
      refine (h1 _).mono ?_
      rintro e w4 ⟨rfl, hb4⟩
      go_wp2
      go_ret
      exact ⟨rfl, ((hb1.tr hb2).tr hb3).tr hb4⟩
  · go_enter Tryd.func5, Tryd.ntmps5
    go_wp2
    go_ret
    exact ⟨rfl, Below.refl _ _⟩
theorem walk_FnValidName (w : World) (hok : OkW w) (v : Value) (L : List UInt8) (hv : SlR w 0 w.heap.size 1 eB v L) :
    Calls Tryd.prog 7 #[v] w fun e w' => e = .returned (.bool true) ∧ Below w.heap.size w w' := by
  have hlen := hv.len_le
  have hv0 := hv
  obtain ⟨a, c, rfl, _, _⟩ := hv.form
  unfold maxLen at hlen
  by_cases hbig : L.length ≤ 1048576
  · have hd : decide ((1048576 : Int) < (L.length : Int)) = false := decide_eq_false (by omega)
    go_enter Tryd.func7, Tryd.ntmps7
    go_wp2_with fail
    refine (DrawValidName_any _ L _ hv0 (Nat.le_refl _) hbig).mono ?_
    rintro e w1 ⟨s, rfl, hs, hb1⟩
    have hok := hok.gr hb1
    go_wp2_with fail
    refine (iValidName_any s _ (by omega) hok).mono ?_
    rintro e w2 ⟨rfl, hb2⟩
    have hok := hok.gr hb2
    by_cases hn : vName (bs s) = true
    · have h1 := fun w h => iParentOf_any s w (by omega) h
      have h2 := fun w h => iLastOf_any s w (by omega) h
      have hp : fParent (bs s) = parentP (bs s) := by rw [fParent, hn]; rfl
      have hl : fLast (bs s) = lastP (bs s) := by rw [fLast, hn]; rfl
      rw [hp] at h1
      rw [hl] at h2
      obtain ⟨p, hpe⟩ : ∃ p, p = mk (parentP (bs s)) := ⟨_, rfl⟩
      obtain ⟨y, hye⟩ : ∃ y, y = mk (lastP (bs s)) := ⟨_, rfl⟩
      rw [← hpe] at h1
      rw [← hye] at h2
      have hpb : bs p = parentP (bs s) := by rw [hpe]
      have hyb : bs y = lastP (bs s) := by rw [hye]
      have hps : p.size ≤ 11 := by have := vPkg_length (parent_pkg hn); rw [← hpb, bs_length] at this; exact this
      have hys : y.size ≤ 3 := by have := (vPart_length (last_part hn)).2; rw [← hyb, bs_length] at this; exact this
      have h3 := fun w h => iChildOf_any p y w (by omega) (by omega) h
      rw [hpb, hyb, fChild_last hn, mk_bs] at h3
      have h4 := fun w h => iValidName_any p w (by omega) h
      have hpk : (bs p).isEmpty = false → vName (bs p) = true := by
        intro he
        have := parent_pkg hn
        unfold vPkg at this
        rw [← hpb, he, Bool.false_or] at this
        exact this
      have HPK := Lib.hid hpk
      have hpe2 := isEmpty_toList p
      have hd := vName_dot (bs s)
      have e46 : bs s ++ [46] = bs (s ++ ⟨#[46]⟩) := (bs_append s ⟨#[46]⟩).symm
      rw [e46] at hd
      obtain ⟨t, ht⟩ : ∃ t, t = s ++ ⟨#[46]⟩ := ⟨_, rfl⟩
      have hts : t.size ≤ 16777216 := by rw [ht, ByteArray.size_append]; have e : (⟨#[46]⟩ : ByteArray).size = 1 := rfl; omega
      rw [← ht] at hd
      have HT := Lib.hid ht
      have q1 := beq_same s
      clear ht e46 hpk hpe hye hpb hyb hp hl
      by_cases he : (bs p).isEmpty = true
      · rw [he] at hpe2
        clear he HPK
        go_wp2_with fail
        refine (sValidName_any s _ (by omega)).mono ?_
        rintro e w3 ⟨rfl, hb3⟩
        have hok := hok.gr hb3
        go_wp2_with fail
        refine (h1 _ hok).mono ?_
        rintro e w4 ⟨rfl, hb4⟩
        have hok := hok.gr hb4
        go_wp2_with fail
        refine (h2 _ hok).mono ?_
        rintro e w6 ⟨rfl, hb6⟩
        have hok := hok.gr hb6
        go_wp2_with fail
        refine (h3 _ hok).mono ?_
        rintro e w7 ⟨rfl, hb7⟩
        have hok := hok.gr hb7
        go_wp2_with fail
        rw [← HT.out]
        refine (iValidName_any t _ hts hok).mono ?_
        rintro e w8 ⟨rfl, hb8⟩
        go_wp2
        go_ret
        exact ⟨rfl, ((((hb1.tr hb2).tr hb3).tr hb4).tr (hb6.tr hb7)).tr hb8⟩
      · have he' : (bs p).isEmpty = false := (Bool.not_eq_true _).mp he
        have hpn := HPK.out he'
        rw [he'] at hpe2
        clear he he' HPK
        go_wp2_with fail
        refine (sValidName_any s _ (by omega)).mono ?_
        rintro e w3 ⟨rfl, hb3⟩
        have hok := hok.gr hb3
        go_wp2_with fail
        refine (h1 _ hok).mono ?_
        rintro e w4 ⟨rfl, hb4⟩
        have hok := hok.gr hb4
        go_wp2_with fail
        refine (h4 _ hok).mono ?_
        rintro e w5 ⟨rfl, hb5⟩
        have hok := hok.gr hb5
        go_wp2_with fail
        refine (h2 _ hok).mono ?_
        rintro e w6 ⟨rfl, hb6⟩
        have hok := hok.gr hb6
        go_wp2_with fail
        refine (h3 _ hok).mono ?_
        rintro e w7 ⟨rfl, hb7⟩
        have hok := hok.gr hb7
        go_wp2_with fail
        rw [← HT.out]
        refine (iValidName_any t _ hts hok).mono ?_
        rintro e w8 ⟨rfl, hb8⟩
        go_wp2
        go_ret
        exact ⟨rfl, (((((hb1.tr hb2).tr hb3).tr hb4).tr hb5).tr (hb6.tr hb7)).tr hb8⟩
    · have hn' : vName (bs s) = false := (Bool.not_eq_true _).mp hn
      go_wp2_with fail
      refine (sValidName_any s _ (by omega)).mono ?_
      rintro e w3 ⟨rfl, hb3⟩
      go_wp2_with fail
      refine (sValidName_any s _ (by omega)).mono ?_
      rintro e w4 ⟨rfl, hb4⟩
      go_wp2
      go_ret
      exact ⟨rfl, ((hb1.tr hb2).tr hb3).tr hb4⟩
  · go_enter Tryd.func7, Tryd.ntmps7
    go_wp2
    go_ret
    exact ⟨rfl, Below.refl _ _⟩
theorem walk_FnParentOf (w : World) (hok : OkW w) (v : Value) (L : List UInt8) (hv : SlR w 0 w.heap.size 1 eB v L) :
    Calls Tryd.prog 9 #[v] w fun e w' => e = .returned (.bool true) ∧ Below w.heap.size w w' := by
  have hlen := hv.len_le
  have hv0 := hv
  obtain ⟨a, c, rfl, _, _⟩ := hv.form
  unfold maxLen at hlen
  by_cases hbig : L.length ≤ 1048576
  · have hd : decide ((1048576 : Int) < (L.length : Int)) = false := decide_eq_false (by omega)
    go_enter Tryd.func9, Tryd.ntmps9
    go_wp2_with fail
    refine (DrawParentOf_any _ L _ hv0 (Nat.le_refl _) hbig).mono ?_
    rintro e w1 ⟨s, rfl, hs, hb1⟩
    have hok := hok.gr hb1
    have h1 := fun w => sParentOf_any s w (by omega)
    have h2 := fun w h => iParentOf_any s w (by omega) h
    obtain ⟨y, hy⟩ : ∃ y, y = mk (fParent (bs s)) := ⟨_, rfl⟩
    rw [← hy] at h1 h2
    have hyb : bs y = fParent (bs s) := by rw [hy]
    have HY := Lib.hid hyb
    have q1 := beq_same y
    have q2 := bne_same y
    clear hy hyb
    by_cases hn : vName (bs s) = true
    · have hp : fParent (bs s) = parentP (bs s) := by rw [fParent, hn]; rfl
      have hyb : bs y = parentP (bs s) := by rw [HY.out, hp]
      have hys : y.size ≤ 11 := by have := vPkg_length (parent_pkg hn); rw [← hyb, bs_length] at this; exact this
      have h3 := fun w h => iIsUnder_any s y w (by omega) (by omega) h
      rw [hyb, under_parent hn] at h3
      have h4 := fun w h => iPartsOf_any y w (by omega) h
      have h5 := fun w h => iPartsOf_any s w (by omega) h
      rw [hyb] at h4
      have hcount := fParts_parent hn
      have hl3 : (fParts (bs s)).length ≤ 3 := by unfold fParts; rw [hn]; exact (vName_parts hn).1
      generalize fParts (parentP (bs s)) = A at h4 hcount
      generalize fParts (bs s) = B at h5 hcount hl3
      clear hp hyb HY
      go_wp2_with fail
      refine (h2 _ hok).mono ?_
      rintro e w2 ⟨rfl, hb2⟩
      have hok := hok.gr hb2
      go_wp2_with fail
      refine (h1 _).mono ?_
      rintro e w3 ⟨rfl, hb3⟩
      have hok := hok.gr hb3
      go_wp2_with fail
      refine (iValidName_any s _ (by omega) hok).mono ?_
      rintro e w4 ⟨rfl, hb4⟩
      have hok := hok.gr hb4
      go_wp2_with fail
      refine (h3 _ hok).mono ?_
      rintro e w5 ⟨rfl, hb5⟩
      have hok := hok.gr hb5
      go_wp2_with fail
      refine (h4 _ hok).mono ?_
      rintro e w6 ⟨v6, rfl, o6, hb6⟩
      obtain ⟨a6, c6, rfl, _, _⟩ := o6.form
      have hok := hok.gr hb6
      go_wp2_with fail
      refine (h5 _ hok).mono ?_
      rintro e w7 ⟨v7, rfl, o7, hb7⟩
      obtain ⟨a7, c7, rfl, _, _⟩ := o7.form
      have hfin : ((A.length : Int) == (B.length : Int) - 1) = true := by rw [beq_iff_eq]; omega
      have hq : IntKind.i64.wrap ((B.length : Int) - 1) = (B.length : Int) - 1 := IntWalk.i64_in _ (by omega)
      go_wp2
      go_ret
      exact ⟨rfl, ((((hb1.tr hb2).tr hb3).tr hb4).tr (hb5.tr hb6)).tr hb7⟩
    · have hn' : vName (bs s) = false := (Bool.not_eq_true _).mp hn
      go_wp2_with fail
      refine (h2 _ hok).mono ?_
      rintro e w2 ⟨rfl, hb2⟩
      have hok := hok.gr hb2
      go_wp2_with fail
      refine (h1 _).mono ?_
      rintro e w3 ⟨rfl, hb3⟩
      have hok := hok.gr hb3
      go_wp2_with fail
      refine (iValidName_any s _ (by omega) hok).mono ?_
      rintro e w4 ⟨rfl, hb4⟩
      go_wp2_with fail
      refine (h1 _).mono ?_
      rintro e w5 ⟨rfl, hb5⟩
      go_wp2
      go_ret
      exact ⟨rfl, (((hb1.tr hb2).tr hb3).tr hb4).tr hb5⟩
  · go_enter Tryd.func9, Tryd.ntmps9
    go_wp2
    go_ret
    exact ⟨rfl, Below.refl _ _⟩
theorem walk_FnChildOf (w : World) (hok : OkW w) (v : Value) (L : List UInt8) (hv : SlR w 0 w.heap.size 1 eB v L) :
    Calls Tryd.prog 10 #[v] w fun e w' => e = .returned (.bool true) ∧ Below w.heap.size w w' := by
  have hlen := hv.len_le
  have hv0 := hv
  obtain ⟨a, c, rfl, _, _⟩ := hv.form
  unfold maxLen at hlen
  by_cases hbig : L.length ≤ 1048576
  · have hd : decide ((1048576 : Int) < (L.length : Int)) = false := decide_eq_false (by omega)
    go_enter Tryd.func10, Tryd.ntmps10
    go_wp2_with fail
    refine (DrawChildOf_any _ L _ hv0 (Nat.le_refl _) hbig).mono ?_
    rintro e w1 ⟨p, s, rfl, hp, hs, hb1⟩
    have hok := hok.gr hb1
    have h1 := fun w => sChildOf_any p s w (by omega) (by omega)
    have h2 := fun w h => iChildOf_any p s w (by omega) (by omega) h
    obtain ⟨y, hy⟩ : ∃ y, y = mk (fChild (bs p) (bs s)) := ⟨_, rfl⟩
    rw [← hy] at h1 h2
    have hyb : bs y = fChild (bs p) (bs s) := by rw [hy]
    have hye := emp_of hyb
    have HY := Lib.hid hyb
    have q1 := beq_same y
    have q2 := bne_same y
    have q3 := beq_same p
    have q4 := beq_same s
    clear hy hyb
    by_cases hz : fChild (bs p) (bs s) = []
    · rw [hz, List.isEmpty_nil] at hye
      clear hz
      go_wp2_with fail
      refine (h2 _ hok).mono ?_
      rintro e w2 ⟨rfl, hb2⟩
      go_wp2_with fail
      refine (h1 _).mono ?_
      rintro e w3 ⟨rfl, hb3⟩
      go_wp2_with fail
      refine (h1 _).mono ?_
      rintro e w4 ⟨rfl, hb4⟩
      go_wp2
      go_ret
      exact ⟨rfl, ((hb1.tr hb2).tr hb3).tr hb4⟩
    · obtain ⟨g1, g2, g3, g4⟩ := fChild_some hz
      rw [emp_false hz] at hye
      have hyb : bs y = childP (bs p) (bs s) := by rw [HY.out, g4]
      have hyn : vName (bs y) = true := by rw [hyb]; exact g3
      have hys : y.size ≤ 11 := by have := vName_length hyn; rw [bs_length] at this; exact this
      obtain ⟨g5, g6⟩ := parent_child (p := bs p) g2
      have h3 := fun w h => iParentOf_any y w (by omega) h
      have h4 := fun w h => iLastOf_any y w (by omega) h
      rw [fParent, hyn, if_pos rfl, hyb, g5, mk_bs] at h3
      rw [fLast, hyn, if_pos rfl, hyb, g6, mk_bs] at h4
      clear hz HY g1 g2 g3 g4 hyb g5 g6
      go_wp2_with fail
      refine (h2 _ hok).mono ?_
      rintro e w2 ⟨rfl, hb2⟩
      have hok := hok.gr hb2
      go_wp2_with fail
      refine (h1 _).mono ?_
      rintro e w3 ⟨rfl, hb3⟩
      have hok := hok.gr hb3
      go_wp2_with fail
      refine (h3 _ hok).mono ?_
      rintro e w4 ⟨rfl, hb4⟩
      have hok := hok.gr hb4
      go_wp2_with fail
      refine (h4 _ hok).mono ?_
      rintro e w5 ⟨rfl, hb5⟩
      have hok := hok.gr hb5
      go_wp2_with fail
      refine (iValidName_any y _ (by omega) hok).mono ?_
      rintro e w6 ⟨rfl, hb6⟩
      go_wp2
      go_ret
      exact ⟨rfl, ((((hb1.tr hb2).tr hb3).tr hb4).tr hb5).tr hb6⟩
  · go_enter Tryd.func10, Tryd.ntmps10
    go_wp2
    go_ret
    exact ⟨rfl, Below.refl _ _⟩
end Go.Proofs.YtonpfkfmkdaglaaDoor
