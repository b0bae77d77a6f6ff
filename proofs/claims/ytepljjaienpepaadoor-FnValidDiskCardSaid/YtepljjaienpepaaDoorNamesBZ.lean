/-
  Walks on names: splitting at dots, names, packages, parents, children, what is under what.
-/
import Derived.Test.YtepljjaienpepaaDoorZ1
namespace Go.Proofs.YtepljjaienpepaaDoor
open Go Go.RowKit Imp
set_option linter.unusedVariables false

/-- Nothing that was there has turned. -/
abbrev Gr (w w' : World) : Prop := Below w.heap.size w w'
theorem Gr.rfl' (w : World) : Gr w w := Below.refl _ _
theorem Gr.tr {a b c : World} (h : Gr a b) (k : Gr b c) : Gr a c := h.trans (k.mono h.size)

/-- The library's variable holds some number. -/
def OkW (w : World) : Prop := ∃ m : Int, w.cell? ⟨0, 0, none⟩ = some (.int .i64 m)
theorem OkW.gr {w w' : World} (h : OkW w) (hb : Gr w w') : OkW w' := by
  obtain ⟨m, hm⟩ := h
  exact ⟨m, (hb.cell (p := ⟨0, 0, none⟩) (World.block_lt_of_cell? w _ hm)).trans hm⟩
theorem OkW.drewN {w : World} (h : OkW w) (n : Nat) : OkW (w.drewN n) := h

def eL (l : List UInt8) : List Value := [.string (mk l)]
theorem ti_strs : TI Tryd.prog 32 9 1 16 := TI.mk' (z := .string ByteArray.empty) Tryd.underlying32 (by kernel_rfl) rfl (by decide)

theorem iValidPart_mk (l : List UInt8) (w : World) (hl : l.length ≤ maxLen) :
    Calls Tryd.prog 42 #[.string (mk l)] w fun e w' => e = .returned (.bool (vPart l)) ∧ w = w' := iValidPart_any (mk l) w (by rw [mk_size]; exact hl)
theorem svalidPart_mk (l : List UInt8) (w : World) (hl : l.length ≤ maxLen) :
    Calls Tryd.prog 48 #[.string (mk l)] w fun e w' => e = .returned (.bool (vPart l)) ∧ w = w' := svalidPart_any (mk l) w (by rw [mk_size]; exact hl)

/-- strings.Split at a dot. -/
theorem split_any (l : List UInt8) (w : World) (hl : l.length ≤ 16777216) (hok : OkW w) :
    Calls Tryd.prog 41 #[.string (mk l), .string (mk [46])] w fun e w' => ∃ v, e = .returned v ∧ Own w' w.heap.size 9 1 eL v (spl l) ∧ Gr w w' := by
  obtain ⟨m, hm⟩ := hok
  refine (Tryd.strings_Split (mk l) (mk [46]) m w (by rw [mk_size]; omega) hm (by decide)).mono ?_
  rintro e w' ⟨rfl, rfl⟩
  have hsz := Lib.splitB_all (mk [46]) (by decide) 0 _ (mk l) rfl
  rw [splitB_spl, bs_mk, List.length_map] at hsz
  rw [splitB_spl, bs_mk]
  have hlen := spl_length_le l
  refine ⟨_, rfl, ⟨?_, .inr ⟨w.heap.size, _, _, ?_, Nat.le_refl _, heap_alloc_new w _, Nat.le_refl _, ?_, ?_, ?_⟩⟩, (Below.refl _ _).alloc (Nat.le_refl _) _⟩
  · rw [flatMap_len (enc := eL) (k := 1) _ (fun _ _ => rfl)]
  · rw [hsz]
  · unfold maxLen; omega
  · simp
  · rw [List.take_of_length_le (by simp)]
    rw [List.map_map, List.map_eq_flatMap]; rfl

theorem take_snoc_at {l : List UInt8} {f k : Nat} (hf : f ≤ k) (hk : k < l.length) : (l.drop f).take (k + 1 - f) = (l.drop f).take (k - f) ++ [l[k]] := by
  have e : k + 1 - f = (k - f) + 1 := by omega
  rw [e, List.take_succ_eq_append_getElem (by rw [List.length_drop]; omega)]
  congr 2
  rw [List.getElem_drop]
  congr 1
  omega

/-- spec.splitAt at a dot. -/
theorem splitAt_s (s : ByteArray) (w : World) (hs : s.size ≤ 16777216) :
    Calls Tryd.prog 47 #[.string s, .int .u8 46] w fun e w' => ∃ v, e = .returned v ∧ Own w' w.heap.size 9 1 eL v (spl (bs s)) ∧ Gr w w' := by
  obtain ⟨l, hle⟩ : ∃ l, l = bs s := ⟨_, rfl⟩
  rw [← hle]
  have hl1 : l.length ≤ s.size := by rw [hle, bs_length]; exact Nat.le_refl _
  have hl2 : s.size ≤ l.length := by rw [hle, bs_length]; exact Nat.le_refl _
  have hgetA : ∀ k (h : k < l.length) (h' : k < s.size), l[k] = s[k] := by intro k h h'; subst hle; rfl
  have hextA : ∀ a b, s.extract a b = mk ((l.drop a).take (b - a)) := by intro a b; subst hle; exact Lib.extract_eq s a b
  have HG := Lib.hid hgetA
  have HE := Lib.hid hextA
  clear hgetA hextA hle
  go_enter Tryd.func47, Tryd.ntmps47
  go_wp2
  go_loopw [5, 6, 7] (fun o f i wr => ∃ k fr : Nat, ∃ D : List (List UInt8), fr ≤ k ∧ k ≤ s.size ∧ i = .int .i64 k ∧ f = .int .i64 fr ∧ Own wr w.heap.size 9 1 eL o D ∧ spl l = D ++ spl (l.drop fr) ∧
      (46 : UInt8) ∉ (l.drop fr).take (k - fr) ∧ D.length ≤ fr ∧ Gr w wr) (fun _ _ i _ => s.size - (intOf i).toNat)
  case atStart => exact ⟨0, 0, [], Nat.le_refl _, Nat.zero_le _, rfl, rfl, Own.empty w _ _ _ _ (Nat.le_refl _), by simp, by simp, Nat.le_refl _, (Below.refl _ _).alloc (Nat.le_refl _) _⟩
  case round =>
    obtain ⟨k, fr, D, hfk, hk, rfl, rfl, hown, hspl, hnd, hD, hgr⟩ := hrel
    have HS := Lib.hid hspl
    have HN := Lib.hid hnd
    clear hspl hnd
    by_cases hlt : k < s.size
    · have hkl : k < l.length := by omega
      have hsn := take_snoc_at hfk hkl
      have HT := Lib.hid hsn
      clear hsn
      by_cases h46 : l[k] = 46
      · have hcut : l.drop fr = (l.drop fr).take (k - fr) ++ 46 :: l.drop (k + 1) := by
          conv => lhs; rw [← List.take_append_drop (k - fr) (l.drop fr), List.drop_drop, show fr + (k - fr) = k from by omega, List.drop_eq_getElem_cons hkl, h46]
        have HC := Lib.hid hcut
        have hx := HE.out fr k
        obtain ⟨x, hxe⟩ : ∃ x, x = (l.drop fr).take (k - fr) := ⟨_, rfl⟩
        rw [← hxe] at hx
        have HX := Lib.hid hxe
        have hc1 : ((s[k].toNat : Int) == 46) = true := by rw [← HG.out k hkl hlt, h46]; rfl
        clear hcut hxe h46
        have hgs := hgr.size
        go_wp2_with (at_builtin
                     refine wpList_app _ rfl (.tmp 20) (.tmp 25) ti_strs rfl rfl (hown.alloc _) rfl (SlR.one wr wr.heap.size x 9 (Nat.le_refl _) rfl) (fun _ _ => rfl) (by simp [eL, Value.oneCell']) (by unfold maxLen; simp; omega) (by simp; omega) (by simp; omega) ?_
                     intro v2 w2 hown2 hg2 hat2)
        go_roundw
        case rel =>
          refine ⟨k + 1, k + 1, D ++ [x], Nat.le_refl _, by omega, by go_num, by go_num, hown2, ?_, by simp, by simp; omega, ?_⟩
          · rw [HS.out, HC.out, spl_dot HN.out, ← HX.out]; simp
          · exact ((hgr.alloc hgs _).grown hg2 (by simp; omega) (fun b hb => (hown.block b hb).1))
        case measure => simp [intOf]; omega
      · have hc1 : ((s[k].toNat : Int) == 46) = false := by
          rw [beq_eq_false_iff_ne, ← HG.out k hkl hlt]
          intro e
          apply h46
          apply UInt8.toNat_inj.1
          show l[k].toNat = 46
          omega
        have H46 := Lib.hid h46
        clear h46
        go_wp2
        go_roundw
        case rel => exact ⟨k + 1, fr, D, by omega, by omega, by go_num, rfl, hown, HS.out, by rw [HT.out, List.mem_append, not_or]; exact ⟨HN.out, by simp; exact fun e => H46.out e.symm⟩, hD, hgr⟩
        case measure => simp [intOf]; omega
    · have hkn : l.length ≤ k := by omega
      have hx := HE.out fr s.size
      obtain ⟨x, hxe⟩ : ∃ x, x = l.drop fr := ⟨_, rfl⟩
      have hx2 : s.extract fr s.size = mk x := by rw [hx, List.take_of_length_le (by rw [List.length_drop]; omega), hxe]
      have HX := Lib.hid hxe
      have hnn : (46 : UInt8) ∉ x := by
        have := HN.out
        rw [List.take_of_length_le (by rw [List.length_drop]; omega), ← hxe] at this
        exact this
      have HNN := Lib.hid hnn
      clear hx hxe hnn
      have hgs := hgr.size
      have hfl : (fr : Int) ≤ (s.size : Int) := by omega
      go_wp2_with (at_builtin
                   refine wpList_app _ rfl (.tmp 29) (.tmp 33) ti_strs rfl rfl (hown.alloc _) rfl (SlR.one wr wr.heap.size x 9 (Nat.le_refl _) rfl) (fun _ _ => rfl) (by simp [eL, Value.oneCell']) (by unfold maxLen; simp; omega) (by simp; omega) (by simp; omega) ?_
                   intro v2 w2 hown2 hg2 hat2)
      go_ret
      refine ⟨v2, rfl, ?_, ((hgr.alloc hgs _).grown hg2 (by simp; omega) (fun b hb => (hown.block b hb).1))⟩
      have e : spl l = D ++ [x] := by rw [HS.out, ← HX.out, spl_nodot HNN.out]
      rw [e]; exact hown2
theorem splitAt_any (l : List UInt8) (w : World) (hl : l.length ≤ 16777216) :
    Calls Tryd.prog 47 #[.string (mk l), .int .u8 46] w fun e w' => ∃ v, e = .returned v ∧ Own w' w.heap.size 9 1 eL v (spl l) ∧ Gr w w' := splitAt_s (mk l) w (by rw [mk_size]; exact hl)

/-! ### Names -/
theorem vName_of {P : List (List UInt8)} {l : List UInt8} (h : spl l = P) (ha : P.all vPart = true) : vName l = decide ((P.length : Int) ≤ 3) := by
  unfold vName
  rw [h, ha, Bool.true_and, decide_eq_decide]; omega
theorem vName_bad {P : List (List UInt8)} {l : List UInt8} (h : spl l = P) {k : Nat} (hk : k < P.length) (hp : vPart P[k] = false) : vName l = false := by
  unfold vName
  rw [h, all_false_at _ _ k hk hp]; rfl
theorem spl_small {P : List (List UInt8)} {s : ByteArray} (h : P = spl (bs s)) (hs : s.size ≤ 16777216) : P.length ≤ 16777217 ∧ ∀ p ∈ P, p.length ≤ 16777216 := by
  subst h
  refine ⟨by have := spl_length_le (bs s); rw [bs_length] at this; omega, fun p hp => ?_⟩
  have hsum : ∀ l : List UInt8, ∀ p ∈ spl l, p.length ≤ l.length := by
    intro l
    induction l with
    | nil => intro p hp; simp [spl] at hp; subst hp; simp
    | cons c t ih =>
      intro p hp
      unfold spl at hp
      split at hp
      · rw [List.mem_cons] at hp
        rcases hp with rfl | hp
        · simp
        · have := ih p hp; simp only [List.length_cons]; omega
      · rw [List.mem_cons] at hp
        rcases hp with rfl | hp
        · cases e : spl t with
          | nil => exact absurd e (spl_ne t)
          | cons x r => have := ih x (by rw [e]; simp); simp only [List.headD_cons, List.length_cons]; omega
        · have := ih p (List.mem_of_mem_tail hp); simp only [List.length_cons]; omega
  have := hsum (bs s) p hp
  rw [bs_length] at this
  omega

theorem iValidName_any (s : ByteArray) (w : World) (hs : s.size ≤ 16777216) (hok : OkW w) :
    Calls Tryd.prog 27 #[.string s] w fun e w' => e = .returned (.bool (vName (bs s))) ∧ Gr w w' := by
  obtain ⟨P, hP⟩ : ∃ P, P = spl (bs s) := ⟨_, rfl⟩
  have hsm := spl_small hP hs
  have HP := Lib.hid hP
  have HM := Lib.hid hsm.2
  have hlen := hsm.1
  clear hsm
  have hsplit := split_any (bs s) w (by rw [bs_length]; exact hs) hok
  rw [mk_bs, ← hP] at hsplit
  have HSP := Lib.hid hsplit
  clear hP hsplit
  go_enter Tryd.func27, Tryd.ntmps27
  go_wp2_with fail
  refine HSP.out.mono ?_
  rintro e w1 ⟨v, rfl, hown, hb1⟩
  obtain ⟨a, c, rfl, h1, h2, h3⟩ := hown.reads (fun _ _ => rfl)
  unfold maxLen at h2
  go_wp2
  go_loop [10] (fun i => ∃ k : Nat, k ≤ P.length ∧ i = .int .i64 k ∧ (P.take k).all vPart = true) (fun i => P.length - (intOf i).toNat)
  case atStart => exact ⟨0, Nat.zero_le _, rfl, by simp⟩
  case round =>
    obtain ⟨k, hk, rfl, hall⟩ := hrel
    have H := Lib.hid hall
    clear hall
    by_cases hlt : k < P.length
    · obtain ⟨b, o, rfl, _, hc⟩ := h3 k hlt
      have c0 : w1.cell? ⟨b, o + k, none⟩ = some (.string (mk P[k])) := by have := hc 0 _ rfl; simpa using this
      have hpl := HM.out P[k] (List.getElem_mem hlt)
      have hat := all_take_succ vPart P k hlt
      have HA := Lib.hid hat
      clear hc h3 hat
      by_cases hv : vPart P[k] = true
      · go_wp2_with (go_at_call 42; refine (iValidPart_mk _ _ (by unfold maxLen; omega)).mono ?_; rintro e w' ⟨rfl, rfl⟩)
        go_round
        case rel => exact ⟨k + 1, by omega, by go_num, by rw [HA.out, H.out, hv]; rfl⟩
        case measure => simp [intOf]; omega
      · have hv' : vPart P[k] = false := (Bool.not_eq_true _).mp hv
        go_wp2_with (go_at_call 42; refine (iValidPart_mk _ _ (by unfold maxLen; omega)).mono ?_; rintro e w' ⟨rfl, rfl⟩)
        go_ret
        exact ⟨ret_bool (vName_bad HP.out.symm hlt hv').symm, hb1⟩
    · go_wp2
      go_ret
      exact ⟨ret_bool (vName_of HP.out.symm (by rw [← List.take_of_length_le (show P.length ≤ k by omega)]; exact H.out)).symm, hb1⟩
theorem svalidName_any (s : ByteArray) (w : World) (hs : s.size ≤ 16777216) :
    Calls Tryd.prog 31 #[.string s] w fun e w' => e = .returned (.bool (vName (bs s))) ∧ Gr w w' := by
  obtain ⟨P, hP⟩ : ∃ P, P = spl (bs s) := ⟨_, rfl⟩
  have hsm := spl_small hP hs
  have HP := Lib.hid hP
  have HM := Lib.hid hsm.2
  have hlen := hsm.1
  clear hsm
  have hsplit := splitAt_s s w hs
  rw [← hP] at hsplit
  have HSP := Lib.hid hsplit
  clear hP hsplit
  go_enter Tryd.func31, Tryd.ntmps31
  go_wp2_with fail
  refine HSP.out.mono ?_
  rintro e w1 ⟨v, rfl, hown, hb1⟩
  obtain ⟨a, c, rfl, h1, h2, h3⟩ := hown.reads (fun _ _ => rfl)
  unfold maxLen at h2
  go_wp2
  go_loop [4] (fun i => ∃ k : Nat, k ≤ P.length ∧ i = .int .i64 k ∧ (P.take k).all vPart = true) (fun i => P.length - (intOf i).toNat)
  case atStart => exact ⟨0, Nat.zero_le _, rfl, by simp⟩
  case round =>
    obtain ⟨k, hk, rfl, hall⟩ := hrel
    have H := Lib.hid hall
    clear hall
    by_cases hlt : k < P.length
    · obtain ⟨b, o, rfl, _, hc⟩ := h3 k hlt
      have c0 : w1.cell? ⟨b, o + k, none⟩ = some (.string (mk P[k])) := by have := hc 0 _ rfl; simpa using this
      have hpl := HM.out P[k] (List.getElem_mem hlt)
      have hat := all_take_succ vPart P k hlt
      have HA := Lib.hid hat
      clear hc h3 hat
      by_cases hv : vPart P[k] = true
      · go_wp2_with (go_at_call 48; refine (svalidPart_mk _ _ (by unfold maxLen; omega)).mono ?_; rintro e w' ⟨rfl, rfl⟩)
        go_round
        case rel => exact ⟨k + 1, by omega, by go_num, by rw [HA.out, H.out, hv]; rfl⟩
        case measure => simp [intOf]; omega
      · have hv' : vPart P[k] = false := (Bool.not_eq_true _).mp hv
        go_wp2_with (go_at_call 48; refine (svalidPart_mk _ _ (by unfold maxLen; omega)).mono ?_; rintro e w' ⟨rfl, rfl⟩)
        go_ret
        exact ⟨ret_bool (vName_bad HP.out.symm hlt hv').symm, hb1⟩
    · go_wp2
      go_ret
      exact ⟨ret_bool (vName_of HP.out.symm (by rw [← List.take_of_length_le (show P.length ≤ k by omega)]; exact H.out)).symm, hb1⟩

/-! ### Packages -/
theorem isEmpty_toList (s : ByteArray) : s.toList.isEmpty = (bs s).isEmpty := by rw [ByteArray.toList_eq]
theorem ipackageOk_any (s : ByteArray) (w : World) (hs : s.size ≤ 16777216) (hok : OkW w) :
    Calls Tryd.prog 16 #[.string s] w fun e w' => e = .returned (.bool (vPkg (bs s))) ∧ Gr w w' := by
  by_cases he : (bs s).isEmpty = true
  · have h1 : s.toList.isEmpty = true := by rw [isEmpty_toList]; exact he
    go_enter Tryd.func16, Tryd.ntmps16
    go_wp2
    go_ret
    exact ⟨ret_bool (by rw [vPkg, he]; rfl), Gr.rfl' _⟩
  · have he' : (bs s).isEmpty = false := (Bool.not_eq_true _).mp he
    have h1 : s.toList.isEmpty = false := by rw [isEmpty_toList]; exact he'
    go_enter Tryd.func16, Tryd.ntmps16
    go_wp2_with (go_at_call 27; refine (iValidName_any _ _ hs hok).mono ?_; rintro e w1 ⟨rfl, hb1⟩)
    go_ret
    exact ⟨ret_bool (by rw [vPkg, he']; rfl), hb1⟩
theorem svalidPackage_any (s : ByteArray) (w : World) (hs : s.size ≤ 16777216) :
    Calls Tryd.prog 20 #[.string s] w fun e w' => e = .returned (.bool (vPkg (bs s))) ∧ Gr w w' := by
  by_cases he : (bs s).isEmpty = true
  · have h1 : s.toList.isEmpty = true := by rw [isEmpty_toList]; exact he
    go_enter Tryd.func20, Tryd.ntmps20
    go_wp2
    go_ret
    exact ⟨ret_bool (by rw [vPkg, he]; rfl), Gr.rfl' _⟩
  · have he' : (bs s).isEmpty = false := (Bool.not_eq_true _).mp he
    have h1 : s.toList.isEmpty = false := by rw [isEmpty_toList]; exact he'
    go_enter Tryd.func20, Tryd.ntmps20
    go_wp2_with (go_at_call 31; refine (svalidName_any _ _ hs).mono ?_; rintro e w1 ⟨rfl, hb1⟩)
    go_ret
    exact ⟨ret_bool (by rw [vPkg, he']; rfl), hb1⟩

/-! ### Under -/
theorem beq_toList (s t : ByteArray) : (s.toList == t.toList) = decide (bs s = bs t) := by rw [ByteArray.toList_eq, ByteArray.toList_eq, Bool.eq_iff_iff]; simp
theorem bs_append (a b : ByteArray) : bs (a ++ b) = bs a ++ bs b := by simp [bs]
theorem prefix_take (q l : List UInt8) : q.isPrefixOf l = decide (l.take q.length = q) := by
  rw [Bool.eq_iff_iff, List.isPrefixOf_iff_prefix, List.prefix_iff_eq_take, decide_eq_true_iff]
  exact eq_comm
theorem under_ext (s p : ByteArray) : decide (bs (s.extract 0 (p.size + 1)) = bs (p ++ { data := #[46] })) = (false || false || (bs p ++ [46]).isPrefixOf (bs s)) := by
  rw [prefix_take, Lib.extract_eq, bs_mk, bs_append]
  simp only [List.drop_zero, Nat.sub_zero, List.length_append, List.length_cons, List.length_nil, Bool.false_or]
  rfl
theorem has_ext (s p : ByteArray) : Lib.hasPrefix s.data.toList (p ++ { data := #[46] }).data.toList = (true && true && (false || false || (bs p ++ [46]).isPrefixOf (bs s))) := by
  have : (p ++ { data := #[46] } : ByteArray).data.toList = bs p ++ [46] := bs_append _ _
  rw [this]; simp [Lib.hasPrefix]
theorem prefix_long (s p : ByteArray) (h : s.size < p.size + 1) : (bs p ++ [46]).isPrefixOf (bs s) = false := by
  rw [prefix_take]
  apply decide_eq_false
  intro e
  have := congrArg List.length e
  rw [List.length_take, List.length_append, bs_length, bs_length, List.length_cons, List.length_nil] at this
  omega

/-! ### Parts, last, parent, child -/
theorem ret_str {a b : ByteArray} (h : a = b) : Ending.returned (.string a) = .returned (.string b) := by rw [h]
theorem jn_take {P : List (List UInt8)} {k : Nat} (h : k < P.length) : jn (P.take (k + 1)) = if k = 0 then P[k] else jn (P.take k) ++ 46 :: P[k] := by
  rw [List.take_succ_eq_append_getElem h]
  by_cases h0 : k = 0
  · rw [if_pos h0]; subst h0; rfl
  · rw [if_neg h0, jn_snoc _ _ (by intro e; have := congrArg List.length e; rw [List.length_take, List.length_nil] at this; omega)]

theorem jn_len_take (P : List (List UInt8)) (k : Nat) : ∀ m, k ≤ m → m ≤ P.length → (jn (P.take k)).length ≤ (jn (P.take m)).length
  | 0, h, _ => by rw [show k = 0 by omega]; exact Nat.le_refl _
  | m + 1, h, hm => by
    by_cases e : k = m + 1
    · rw [e]; exact Nat.le_refl _
    · have ih := jn_len_take P k m (by omega) (by omega)
      have := jn_take (show m < P.length by omega)
      rw [this]
      split
      · rename_i h0; subst h0; rw [show k = 0 by omega]; simp [jn]
      · rw [List.length_append, List.length_cons]; omega
theorem jn_len_le (P : List (List UInt8)) (k : Nat) (hk : k ≤ P.length) : (jn (P.take k)).length ≤ (jn P).length := by
  have := jn_len_take P k P.length hk (Nat.le_refl _)
  rwa [List.take_of_length_le (Nat.le_refl _)] at this
theorem jn_part_le (P : List (List UInt8)) (k : Nat) (hk : k < P.length) : P[k].length ≤ (jn P).length := by
  have h1 := jn_len_le P (k + 1) (by omega)
  rw [jn_take hk] at h1
  split at h1
  · exact h1
  · rw [List.length_append, List.length_cons] at h1; omega

theorem sjoin_any {lo hi : Nat} (v : Value) (P : List (List UInt8)) (w : World) (hv : SlR w lo hi 1 eL v P) (hjl : (jn P).length ≤ 33554432) :
    Calls Tryd.prog 75 #[v] w fun e w' => e = .returned (.string (mk (jn P))) ∧ w = w' := by
  obtain ⟨a, c, rfl, h1, h2, h3⟩ := hv
  unfold maxLen at h2
  go_enter Tryd.func75, Tryd.ntmps75
  go_wp2
  go_loop [3, 4] (fun o i => ∃ k : Nat, ∃ x : ByteArray, k ≤ P.length ∧ i = .int .i64 k ∧ o = .string x ∧ bs x = jn (P.take k)) (fun _ i => P.length - (intOf i).toNat)
  case atStart => exact ⟨0, ByteArray.empty, Nat.zero_le _, rfl, rfl, rfl⟩
  case round =>
    obtain ⟨k, x, hk, rfl, rfl, hx⟩ := hrel
    have hxs : x.size ≤ 33554432 := by have := jn_len_le P k hk; rw [← hx, bs_length] at this; omega
    have H := Lib.hid hx
    clear hx
    by_cases hlt : k < P.length
    · obtain ⟨b, o, rfl, _, hc⟩ := h3 k hlt
      obtain ⟨y, hy⟩ : ∃ y, y = mk P[k] := ⟨_, rfl⟩
      have c0 : w.cell? ⟨b, o + k, none⟩ = some (.string y) := by rw [hy]; have := hc 0 _ rfl; simpa using this
      have hy2 : bs y = P[k] := by rw [hy]
      have hys : y.size ≤ 33554432 := by have := jn_part_le P k hlt; rw [← hy2, bs_length] at this; omega
      have HY := Lib.hid hy2
      have hj := jn_take hlt
      have HJ := Lib.hid hj
      clear hc h3 hy hy2 hj
      by_cases h0 : 0 < (k : Int)
      · go_wp2
        go_round
        case rel => exact ⟨k + 1, x ++ mk [46] ++ y, by omega, by go_num, rfl, by rw [HJ.out, if_neg (by omega), bs_append, bs_append, H.out, HY.out, bs_mk]; simp⟩
        case measure => simp [intOf]; omega
      · go_wp2
        go_round
        case rel => exact ⟨k + 1, x ++ y, by omega, by go_num, rfl, by rw [HJ.out, if_pos (by omega), bs_append, H.out, HY.out, show jn (P.take k) = [] from by rw [show k = 0 by omega]; rfl]; rfl⟩
        case measure => simp [intOf]; omega
    · go_wp2
      go_ret
      exact ⟨ret_str (eq_mk (by rw [H.out, List.take_of_length_le (by omega)])), rfl⟩
theorem child_empty {p s : ByteArray} (he : (bs p).isEmpty = true) : childP (bs p) (bs s) = bs s := by rw [childP, he]; rfl
theorem child_dot {p s : ByteArray} (he : (bs p).isEmpty = false) : childP (bs p) (bs s) = bs (p ++ mk [46] ++ s) := by rw [childP, he, bs_append, bs_append]; show bs p ++ 46 :: bs s = (bs p ++ [46]) ++ bs s; simp
theorem schild_any (p s : ByteArray) (w : World) (hp : p.size ≤ 4194304) (hs : s.size ≤ 4194304) :
    Calls Tryd.prog 58 #[.string p, .string s] w fun e w' => e = .returned (.string (mk (childP (bs p) (bs s)))) ∧ w = w' := by
  by_cases he : (bs p).isEmpty = true
  · have h1 : p.toList.isEmpty = true := by rw [isEmpty_toList]; exact he
    go_enter Tryd.func58, Tryd.ntmps58
    go_wp2
    go_ret
    exact ⟨ret_str (by rw [child_empty he, mk_bs]), rfl⟩
  · have he' : (bs p).isEmpty = false := (Bool.not_eq_true _).mp he
    have h1 : p.toList.isEmpty = false := by rw [isEmpty_toList]; exact he'
    go_enter Tryd.func58, Tryd.ntmps58
    go_wp2
    go_ret
    exact ⟨ret_str (by rw [child_dot he', mk_bs]), rfl⟩
theorem child_size (p s : ByteArray) (hp : p.size ≤ 4194304) (hs : s.size ≤ 4194304) : (mk (childP (bs p) (bs s))).size ≤ 16777216 := by
  rw [mk_size]
  unfold childP
  split
  · rw [bs_length]; omega
  · rw [List.length_append, List.length_cons, bs_length, bs_length]; omega
theorem iChildOf_any (p s : ByteArray) (w : World) (hp : p.size ≤ 4194304) (hs : s.size ≤ 4194304) (hok : OkW w) :
    Calls Tryd.prog 50 #[.string p, .string s] w fun e w' => e = .returned (.string (mk (fChild (bs p) (bs s)))) ∧ Gr w w' := by
  by_cases h1 : vPkg (bs p) = true
  · by_cases h2 : vPart (bs s) = true
    · obtain ⟨y, hy, hyz⟩ : ∃ y : ByteArray, bs y = childP (bs p) (bs s) ∧ y.size ≤ 16777216 := ⟨_, bs_mk _, child_size p s hp hs⟩
      have hfe : fChild (bs p) (bs s) = if vName (bs y) = true then bs y else [] := by rw [fChild, h1, h2, ← hy]; rfl
      rw [hfe]
      have HF := Lib.hid hy
      clear hfe hy
      by_cases he : (bs p).isEmpty = true
      · have hpe : p.toList.isEmpty = true := by rw [isEmpty_toList]; exact he
        have hys : y = s := by rw [← mk_bs y, ← mk_bs s, HF.out, child_empty he]
        subst hys
        by_cases h3 : vName (bs y) = true
        · rw [if_pos h3]
          go_enter Tryd.func50, Tryd.ntmps50
          go_wp2_with fail
          refine (ipackageOk_any _ _ (by omega) hok).mono ?_
          rintro e w1 ⟨rfl, hb1⟩
          go_wp2_with fail
          refine (iValidPart_any _ _ (by unfold maxLen; omega)).mono ?_
          rintro e w2 ⟨rfl, rfl⟩
          go_wp2_with fail
          refine (iValidName_any _ _ hyz (hok.gr hb1)).mono ?_
          rintro e w2 ⟨rfl, hb2⟩
          go_wp2
          go_ret
          exact ⟨ret_str (mk_bs _).symm, hb1.tr hb2⟩
        · have h3' : vName (bs y) = false := (Bool.not_eq_true _).mp h3
          rw [if_neg h3]
          go_enter Tryd.func50, Tryd.ntmps50
          go_wp2_with fail
          refine (ipackageOk_any _ _ (by omega) hok).mono ?_
          rintro e w1 ⟨rfl, hb1⟩
          go_wp2_with fail
          refine (iValidPart_any _ _ (by unfold maxLen; omega)).mono ?_
          rintro e w2 ⟨rfl, rfl⟩
          go_wp2_with fail
          refine (iValidName_any _ _ hyz (hok.gr hb1)).mono ?_
          rintro e w2 ⟨rfl, hb2⟩
          go_wp2
          go_ret
          exact ⟨rfl, hb1.tr hb2⟩
      · have he' : (bs p).isEmpty = false := (Bool.not_eq_true _).mp he
        have hpe : p.toList.isEmpty = false := by rw [isEmpty_toList]; exact he'
        have hys : y = p ++ mk [46] ++ s := by rw [← mk_bs y, HF.out, child_dot he', mk_bs]
        have HY := Lib.hid hys
        clear hys
        by_cases h3 : vName (bs y) = true
        · rw [if_pos h3]
          go_enter Tryd.func50, Tryd.ntmps50
          go_wp2_with fail
          refine (ipackageOk_any _ _ (by omega) hok).mono ?_
          rintro e w1 ⟨rfl, hb1⟩
          go_wp2_with fail
          refine (iValidPart_any _ _ (by unfold maxLen; omega)).mono ?_
          rintro e w2 ⟨rfl, rfl⟩
          go_wp2_with fail
          rw [← HY.out]
          refine (iValidName_any _ _ hyz (hok.gr hb1)).mono ?_
          rintro e w2 ⟨rfl, hb2⟩
          go_wp2
          go_ret
          exact ⟨ret_str (mk_bs _).symm, hb1.tr hb2⟩
        · have h3' : vName (bs y) = false := (Bool.not_eq_true _).mp h3
          rw [if_neg h3]
          go_enter Tryd.func50, Tryd.ntmps50
          go_wp2_with fail
          refine (ipackageOk_any _ _ (by omega) hok).mono ?_
          rintro e w1 ⟨rfl, hb1⟩
          go_wp2_with fail
          refine (iValidPart_any _ _ (by unfold maxLen; omega)).mono ?_
          rintro e w2 ⟨rfl, rfl⟩
          go_wp2_with fail
          rw [← HY.out]
          refine (iValidName_any _ _ hyz (hok.gr hb1)).mono ?_
          rintro e w2 ⟨rfl, hb2⟩
          go_wp2
          go_ret
          exact ⟨rfl, hb1.tr hb2⟩
    · have h2' : vPart (bs s) = false := (Bool.not_eq_true _).mp h2
      have e : fChild (bs p) (bs s) = [] := by rw [fChild, h1, h2']; rfl
      rw [e]
      clear e
      go_enter Tryd.func50, Tryd.ntmps50
      go_wp2_with fail
      refine (ipackageOk_any _ _ (by omega) hok).mono ?_
      rintro e w1 ⟨rfl, hb1⟩
      go_wp2_with fail
      refine (iValidPart_any _ _ (by unfold maxLen; omega)).mono ?_
      rintro e w2 ⟨rfl, rfl⟩
      go_wp2
      go_ret
      exact ⟨rfl, hb1⟩
  · have h1' : vPkg (bs p) = false := (Bool.not_eq_true _).mp h1
    have e : fChild (bs p) (bs s) = [] := by rw [fChild, h1']; rfl
    rw [e]
    clear e
    go_enter Tryd.func50, Tryd.ntmps50
    go_wp2_with fail
    refine (ipackageOk_any _ _ (by omega) hok).mono ?_
    rintro e w1 ⟨rfl, hb1⟩
    go_wp2
    go_ret
    exact ⟨rfl, hb1⟩
end Go.Proofs.YtepljjaienpepaaDoor
