/-
  Walks: lists of texts compared and searched, as the laws do it.
-/
import Derived.Test.YtajbamcfkgkhpaaDoorLawsD
import Derived.Test.YtajbamcfkgkhpaaDoorLawsG
import Derived.Test.YtajbamcfkgkhpaaDoorPlainF
import Derived.Test.YtajbamcfkgkhpaaDoorStrs
namespace Imp
open Go
theorem any_mem {x : List UInt8} {L : List (List UInt8)} : L.any (fun l => decide (l = x)) = decide (x ∈ L) := by
  by_cases h : x ∈ L
  · rw [decide_eq_true h, List.any_eq_true]; exact ⟨x, h, decide_eq_true rfl⟩
  · rw [decide_eq_false h, List.any_eq_false]; intro y hy; simp; intro e; subst e; exact h hy
theorem dots_le (l : List UInt8) : dots l ≤ l.length := List.countP_le_length ..
theorem fJoin_parts {l : List UInt8} (h : vName l = true) : fJoin (fParts l) = l := by
  have e : fParts l = spl l := by rw [fParts, h]; rfl
  obtain ⟨_, hp⟩ := vName_parts h
  unfold fJoin
  rw [e, jn_spl, h, List.all_eq_true.mpr hp]; rfl
end Imp
namespace Go.Proofs.YtajbamcfkgkhpaaDoor
open Go Go.RowKit Imp
set_option linter.unusedVariables false

theorem equalTexts_any {lo hi lo' hi' : Nat} (v u : Value) (L M : List ByteArray) (w : World) (hv : SlR w lo hi 1 eS v L) (hu : SlR w lo' hi' 1 eS u M) :
    Calls Tryd.prog 32 #[v, u] w fun e w' => e = .returned (.bool (decide (L = M))) ∧ ∃ n, w' = w.drewN n := by
  obtain ⟨a, c, rfl, h1, h2, h3⟩ := hv
  obtain ⟨a', c', rfl, h1', h2', h3'⟩ := hu
  unfold maxLen at h2 h2'
  by_cases hl : L.length = M.length
  · have hl0 : ((L.length : Int) != (M.length : Int)) = false := by simp [hl]
    have HL := Lib.hid hl
    go_enter Tryd.func32, Tryd.ntmps32
    go_wp2
    go_loopw [5] (fun i wr => ∃ k n : Nat, k ≤ L.length ∧ i = .int .i64 k ∧ wr = w.drewN n ∧ L.take k = M.take k) (fun i _ => L.length - (intOf i).toNat)
    case atStart => exact ⟨0, 0, Nat.zero_le _, rfl, rfl, by simp⟩
    case round =>
      obtain ⟨k, n, hk, rfl, rfl, hall⟩ := hrel
      have H := Lib.hid hall
      clear hall
      by_cases hlt : k < L.length
      · obtain ⟨b, o, rfl, _, hc⟩ := h3 k hlt
        obtain ⟨b', o', rfl, _, hc'⟩ := h3' k (by omega)
        have hlm : k < M.length := by omega
        obtain ⟨x, hx⟩ : ∃ x, x = L[k] := ⟨_, rfl⟩
        obtain ⟨y, hy⟩ : ∃ y, y = M[k] := ⟨_, rfl⟩
        have c0 : w.cell? ⟨b, o + k * 1 + 0, none⟩ = some (.string x) := hc 0 _ (by rw [hx]; rfl)
        have c0' : w.cell? ⟨b', o' + k * 1 + 0, none⟩ = some (.string y) := hc' 0 _ (by rw [hy]; rfl)
        have HX := Lib.hid hx
        have HY := Lib.hid hy
        clear hc hc' h3 h3' hx hy
        simp only [Nat.mul_one, Nat.add_zero] at c0 c0'
        by_cases he : x = y
        · have h0 : (x.toList == y.toList) = true := by rw [he]; exact beq_self_eq_true _
          have h00 : (x.toList != y.toList) = false := by rw [he]; simp
          have HE := Lib.hid he
          clear he
          go_wp2
          go_quiet (fail)
          go_wp2
          go_roundw
          case rel => exact ⟨k + 1, _, by omega, by go_num, rfl, take_eq_succ hlt hlm H.out (by rw [← HX.out, ← HY.out]; exact HE.out)⟩
          case measure => simp [intOf]; omega
        · have h0 : (x.toList == y.toList) = false := by rw [beq_toList]; exact decide_eq_false (fun e => he (by rw [← mk_bs x, ← mk_bs y, e]))
          have h00 : (x.toList != y.toList) = true := by rw [bne, h0]; rfl
          have HE := Lib.hid he
          clear he
          go_wp2
          go_quiet (fail)
          go_wp2
          go_ret
          exact ⟨ret_bool (decide_eq_false (ne_at hlt hlm (by rw [← HX.out, ← HY.out]; exact HE.out))).symm, dd _ _ _⟩
      · go_wp2
        go_ret
        exact ⟨ret_bool (decide_eq_true (eq_of_take HL.out (by omega) H.out)).symm, _, rfl⟩
  · have hl0 : ((L.length : Int) != (M.length : Int)) = true := by rw [bne_iff_ne]; omega
    go_enter Tryd.func32, Tryd.ntmps32
    go_wp2
    go_ret
    exact ⟨ret_bool (decide_eq_false (ne_len hl)).symm, 0, rfl⟩
theorem equalTexts_same {lo hi lo' hi' : Nat} (v u : Value) (L : List (List UInt8)) (w : World) (hv : SlR w lo hi 1 eL v L) (hu : SlR w lo' hi' 1 eL u L) :
    Calls Tryd.prog 32 #[v, u] w fun e w' => e = .returned (.bool true) ∧ Gr w w' := by
  refine (equalTexts_any v u _ _ w (slr_eS hv) (slr_eS hu)).mono ?_
  rintro e w' ⟨rfl, n, rfl⟩
  exact ⟨ret_bool (decide_eq_true rfl), below_drewN (Gr.rfl' w) n⟩
theorem ltextAt_any {lo hi : Nat} (v : Value) (L : List (List UInt8)) (s : ByteArray) (w : World) (hv : SlR w lo hi 1 eL v L) :
    Calls Tryd.prog 93 #[v, .string s] w fun e w' => e = .returned (.int .i64 (ix (fun l => decide (l = bs s)) L)) ∧ w = w' := by
  obtain ⟨a, c, rfl, h1, h2, h3⟩ := hv
  unfold maxLen at h2
  go_enter Tryd.func93, Tryd.ntmps93
  go_wp2
  go_loop [5] (fun i => ∃ k : Nat, k ≤ L.length ∧ i = .int .i64 k ∧ (L.take k).any (fun l => decide (l = bs s)) = false) (fun i => L.length - (intOf i).toNat)
  case atStart => exact ⟨0, Nat.zero_le _, rfl, by simp⟩
  case round =>
    obtain ⟨k, hk, rfl, hall⟩ := hrel
    have H := Lib.hid hall
    clear hall
    by_cases hlt : k < L.length
    · obtain ⟨b, o, rfl, _, hc⟩ := h3 k hlt
      obtain ⟨x, hx⟩ : ∃ x, x = mk L[k] := ⟨_, rfl⟩
      have c0 : w.cell? ⟨b, o + k * 1 + 0, none⟩ = some (.string x) := hc 0 _ (by rw [hx]; rfl)
      have hq : (x.toList == s.toList) = decide (L[k] = bs s) := by rw [beq_toList, hx]
      clear hc h3 hx
      simp only [Nat.mul_one, Nat.add_zero] at c0
      by_cases he : L[k] = bs s
      · have h0 : (x.toList == s.toList) = true := by rw [hq]; exact decide_eq_true he
        have HE := Lib.hid he
        clear he hq
        go_wp2
        go_ret
        exact ⟨ret_int (ix_hit hlt H.out (decide_eq_true HE.out)).symm, rfl⟩
      · have h0 : (x.toList == s.toList) = false := by rw [hq]; exact decide_eq_false he
        have HE := Lib.hid he
        clear he hq
        go_wp2
        go_round
        case rel => exact ⟨k + 1, by omega, by go_num, by rw [any_take_succ _ _ _ hlt, H.out]; exact decide_eq_false HE.out⟩
        case measure => simp [intOf]; omega
    · go_wp2
      go_ret
      exact ⟨ret_int (ix_none (by rw [← List.take_of_length_le (show L.length ≤ k by omega)]; exact H.out)).symm, rfl⟩
theorem lhasText_any {lo hi : Nat} (v : Value) (L : List (List UInt8)) (s : ByteArray) (w : World) (hv : SlR w lo hi 1 eL v L) :
    Calls Tryd.prog 52 #[v, .string s] w fun e w' => e = .returned (.bool (decide (bs s ∈ L))) ∧ w = w' := by
  have hg := ix_ge (fun l => decide (l = bs s)) L
  rw [any_mem] at hg
  have h1 := ltextAt_any v L s w hv
  obtain ⟨r, hr⟩ : ∃ r, r = ix (fun l => decide (l = bs s)) L := ⟨_, rfl⟩
  rw [← hr] at hg h1
  have HG := Lib.hid hg
  clear hg hr
  obtain ⟨a, c, rfl, _, _⟩ := hv
  go_enter Tryd.func52, Tryd.ntmps52
  go_wp2_with fail
  refine h1.mono ?_
  rintro e w' ⟨rfl, rfl⟩
  go_wp2
  go_ret
  exact ⟨ret_bool HG.out, rfl⟩
theorem walk_FnPartsOf (w : World) (hok : OkW w) (v : Value) (L : List UInt8) (hv : SlR w 0 w.heap.size 1 eB v L) :
    Calls Tryd.prog 6 #[v] w fun e w' => e = .returned (.bool true) ∧ Below w.heap.size w w' := by
  have hlen := hv.len_le
  have hv0 := hv
  obtain ⟨a, c, rfl, _, _⟩ := hv.form
  unfold maxLen at hlen
  by_cases hbig : L.length ≤ 1048576
  · have hd : decide ((1048576 : Int) < (L.length : Int)) = false := decide_eq_false (by omega)
    go_enter Tryd.func6, Tryd.ntmps6
    go_wp2_with fail
    refine (DrawPartsOf_any _ L _ hv0 (Nat.le_refl _) hbig).mono ?_
    rintro e w1 ⟨s, rfl, hs, hb1⟩
    have hok := hok.gr hb1
    have hgr := hb1
    have h1 := fun w => sPartsOf_any s w (by omega)
    have h2 := fun w h => iPartsOf_any s w (by omega) h
    have hl3 := fParts_length (bs s)
    by_cases hn : vName (bs s) = true
    · have hP : fParts (bs s) = spl (bs s) := by rw [fParts, hn]; rfl
      have hpos := spl_pos (bs s)
      have hdots := dots_spl (bs s)
      have hpp := (vName_parts hn).2
      have hj := fJoin_parts hn
      have hjs : jn (fParts (bs s)) = bs s := by rw [hP, jn_spl]
      rw [← hP] at hpos hdots hpp
      clear hP
      generalize fParts (bs s) = P at h1 h2 hl3 hpos hdots hpp hj hjs
      have hz : ((P.length : Int) == 0) = false := by rw [beq_eq_false_iff_ne]; omega
      have HP := Lib.hid hpp
      have HJ := Lib.hid hj
      have HJS := Lib.hid hjs
      have HD := Lib.hid hdots
      have q1 := beq_same s
      clear hpp hj hjs hdots
      go_wp2_with fail
      refine (h2 _ hok).mono ?_
      rintro e w2 ⟨v2, rfl, o2, hb2⟩
      have hok := hok.gr hb2
      have hgr := hgr.tr hb2
      have r2 := o2.reads (fun _ _ => rfl)
      obtain ⟨a2, c2, rfl, _, _⟩ := o2.form
      go_wp2_with fail
      refine (h1 _).mono ?_
      rintro e w3 ⟨v3, rfl, o3, hb3⟩
      have hok := hok.gr hb3
      have hgr := hgr.tr hb3
      have s3 := hb3.size
      have r2 := r2.below hb3 (Nat.le_refl _)
      go_wp2_with fail
      refine (equalTexts_same _ _ P _ r2 (o3.reads (fun _ _ => rfl))).mono ?_
      rintro e w4 ⟨rfl, hb4⟩
      have hok := hok.gr hb4
      have hgr := hgr.tr hb4
      have s4 := hb4.size
      have r2 := r2.below hb4 (by omega)
      go_wp2
      go_loop [5, 6] (fun d i => ∃ k : Nat, k ≤ s.size ∧ i = .int .i64 k ∧ d = .int .i64 (dots ((bs s).take k) : Nat)) (fun _ i => s.size - (intOf i).toNat)
      case atStart => exact ⟨0, Nat.zero_le _, rfl, by simp [dots]⟩
      case round =>
        obtain ⟨k, hk, rfl, rfl⟩ := hrel
        by_cases hlt : k < s.size
        · have hdt := dots_take (l := bs s) (k := k) hlt
          have hdl := dots_le ((bs s).take k)
          rw [List.length_take] at hdl
          have HT := Lib.hid hdt
          clear hdt
          generalize dots ((bs s).take k) = D at hdl HT
          have hdw : IntKind.i64.wrap ((D : Int) + 1) = (D : Int) + 1 := IntWalk.i64_in _ (by omega)
          by_cases hc : s[k] = 46
          · have hq : ((s[k].toNat : Int) == 46) = true := by rw [hc]; rfl
            have e := HT.out
            rw [if_pos (by show (s[k] == 46) = true; rw [hc]; rfl)] at e
            clear HT hc
            have HT := Lib.hid e
            clear e
            go_wp2
            go_round
            case rel => exact ⟨k + 1, by omega, by go_num, by rw [HT.out]; go_num⟩
            case measure => simp [intOf]; omega
          · have hq : ((s[k].toNat : Int) == 46) = false := by
              rw [beq_eq_false_iff_ne]; intro e; apply hc
              have : s[k].toNat = 46 := by omega
              exact UInt8.toNat_inj.mp this
            have e := HT.out
            rw [if_neg (by show ¬ (s[k] == 46) = true; rw [beq_iff_eq]; exact hc)] at e
            clear HT hc
            have HT := Lib.hid e
            clear e
            go_wp2
            go_round
            case rel => exact ⟨k + 1, by omega, by go_num, by rw [HT.out]; rfl⟩
            case measure => simp [intOf]; omega
        · have ek : (bs s).take k = bs s := List.take_of_length_le (by rw [bs_length]; omega)
          rw [ek]
          have hD := HD.out
          generalize dots (bs s) = D at hD
          have hdw : IntKind.i64.wrap ((D : Int) + 1) = (D : Int) + 1 := IntWalk.i64_in _ (by omega)
          have hfin : ((P.length : Int) == (D : Int) + 1) = true := by rw [beq_iff_eq]; omega
          have hjj := iJoinParts_any _ P _ r2 (by omega) (fun p hp => by have := (vPart_length (HP.out p hp)).2; omega) (by rw [HJS.out, bs_length]; omega) (by omega) hok
          rw [HJ.out, mk_bs] at hjj
          clear hD
          go_wp2_with fail
          refine (hjj).mono ?_
          rintro e w5 ⟨rfl, hb5⟩
          have hok := hok.gr hb5
          have hgr := hgr.tr hb5
          go_wp2
          go_ret
          exact ⟨rfl, hgr⟩
    · have hn' : vName (bs s) = false := (Bool.not_eq_true _).mp hn
      have hP : fParts (bs s) = [] := by rw [fParts, hn']; rfl
      rw [hP] at h1 h2
      go_wp2_with fail
      refine (h2 _ hok).mono ?_
      rintro e w2 ⟨v2, rfl, o2, hb2⟩
      have hok := hok.gr hb2
      have hgr := hgr.tr hb2
      have r2 := o2.reads (fun _ _ => rfl)
      obtain ⟨a2, c2, rfl, _, _⟩ := o2.form
      go_wp2_with fail
      refine (h1 _).mono ?_
      rintro e w3 ⟨v3, rfl, o3, hb3⟩
      have hok := hok.gr hb3
      have hgr := hgr.tr hb3
      have s3 := hb3.size
      have r2 := r2.below hb3 (Nat.le_refl _)
      go_wp2_with fail
      refine (equalTexts_same _ _ [] _ r2 (o3.reads (fun _ _ => rfl))).mono ?_
      rintro e w4 ⟨rfl, hb4⟩
      have hok := hok.gr hb4
      have hgr := hgr.tr hb4
      have s4 := hb4.size
      have r2 := r2.below hb4 (by omega)
      go_wp2_with fail
      refine (h1 _).mono ?_
      rintro e w5 ⟨v5, rfl, o5, hb5⟩
      have hok := hok.gr hb5
      have hgr := hgr.tr hb5
      have r2 := r2.below hb5 (by omega)
      go_wp2_with fail
      refine (equalTexts_same _ _ [] _ r2 (o5.reads (fun _ _ => rfl))).mono ?_
      rintro e w6 ⟨rfl, hb6⟩
      have hok := hok.gr hb6
      have hgr := hgr.tr hb6
      go_wp2
      go_ret
      exact ⟨rfl, hgr⟩
  · go_enter Tryd.func6, Tryd.ntmps6
    go_wp2
    go_ret
    exact ⟨rfl, Below.refl _ _⟩
theorem walk_FnIsUnder (w : World) (hok : OkW w) (v : Value) (L : List UInt8) (hv : SlR w 0 w.heap.size 1 eB v L) :
    Calls Tryd.prog 12 #[v] w fun e w' => e = .returned (.bool true) ∧ Below w.heap.size w w' := by
  have hlen := hv.len_le
  have hv0 := hv
  obtain ⟨a, c, rfl, _, _⟩ := hv.form
  unfold maxLen at hlen
  by_cases hbig : L.length ≤ 1048576
  · have hd : decide ((1048576 : Int) < (L.length : Int)) = false := decide_eq_false (by omega)
    go_enter Tryd.func12, Tryd.ntmps12
    go_wp2_with fail
    refine (DrawIsUnder_any _ L _ hv0 (Nat.le_refl _) hbig).mono ?_
    rintro e w1 ⟨s, p, rfl, hs, hp, hb1⟩
    have hok := hok.gr hb1
    have hgr := hb1
    have h1 := fun w => sIsUnder_any s p w (by omega) (by omega)
    have h2 := fun w h => iIsUnder_any s p w (by omega) (by omega) h
    have h3 := fun w h => iValidName_any s w (by omega) h
    have h4 := fun w h => iValidName_any p w (by omega) h
    have hpe := isEmpty_toList p
    by_cases hn : vName (bs s) = true
    · rw [hn] at h3
      by_cases he : (bs p).isEmpty = true
      · rw [he] at hpe
        have hu : fUnder (bs s) (bs p) = true := by
          have e : bs p = [] := List.isEmpty_iff.mp he
          rw [e, fUnder_pkg hn rfl, under_nil]
        rw [hu] at h1 h2
        clear he hu
        go_wp2_with fail
        refine (h2 _ hok).mono ?_
        rintro e w2 ⟨rfl, hb2⟩
        have hok := hok.gr hb2
        have hgr := hgr.tr hb2
        go_wp2_with fail
        refine (h1 _).mono ?_
        rintro e w3 ⟨rfl, hb3⟩
        have hok := hok.gr hb3
        have hgr := hgr.tr hb3
        go_wp2_with fail
        refine (h3 _ hok).mono ?_
        rintro e w4 ⟨rfl, hb4⟩
        have hok := hok.gr hb4
        have hgr := hgr.tr hb4
        go_wp2
        go_ret
        exact ⟨rfl, hgr⟩
      · have he' : (bs p).isEmpty = false := (Bool.not_eq_true _).mp he
        rw [he'] at hpe
        by_cases hm : vName (bs p) = true
        · rw [hm] at h4
          have hiff := under_iff hn (vPkg_of hm)
          rw [he', Bool.false_or] at hiff
          have h5 := fun w h => iNamesAbove_any s w (by omega) h
          have h6 := fun w h => iIsUnder_any p s w (by omega) (by omega) h
          by_cases hu : fUnder (bs s) (bs p) = true
          · rw [hu] at h1 h2
            rw [hu] at hiff
            have HI := Lib.hid hiff.symm
            have hanti : fUnder (bs p) (bs s) = true → s = p := by
              intro hk
              have := fUnder_anti hn hm hu hk
              rw [← mk_bs s, ← mk_bs p, this]
            have HA := Lib.hid hanti
            clear he he' hiff hanti
            by_cases hk : fUnder (bs p) (bs s) = true
            · have hsp := HA.out hk
              rw [hk] at h6
              clear hk HA
              subst hsp
              have q1 := beq_same s
              have q2 := bne_same s
              go_wp2_with fail
              refine (h2 _ hok).mono ?_
              rintro e w5 ⟨rfl, hb5⟩
              have hok := hok.gr hb5
              have hgr := hgr.tr hb5
              go_wp2_with fail
              refine (h1 _).mono ?_
              rintro e w6 ⟨rfl, hb6⟩
              have hok := hok.gr hb6
              have hgr := hgr.tr hb6
              go_wp2_with fail
              refine (h3 _ hok).mono ?_
              rintro e w7 ⟨rfl, hb7⟩
              have hok := hok.gr hb7
              have hgr := hgr.tr hb7
              go_wp2_with fail
              refine (h4 _ hok).mono ?_
              rintro e w8 ⟨rfl, hb8⟩
              have hok := hok.gr hb8
              have hgr := hgr.tr hb8
              go_wp2_with fail
              refine (h6 _ hok).mono ?_
              rintro e w9 ⟨rfl, hb9⟩
              have hok := hok.gr hb9
              have hgr := hgr.tr hb9
              go_wp2_with fail
              refine (h5 _ hok).mono ?_
              rintro e w10 ⟨v7, rfl, o7, hb10⟩
              have hok := hok.gr hb10
              have hgr := hgr.tr hb10
              go_wp2_with fail
              refine (lhasText_any _ _ _ _ (o7.reads (fun _ _ => rfl))).mono ?_
              rintro e w' ⟨rfl, rfl⟩
              rw [HI.out]
              go_wp2
              go_ret
              exact ⟨rfl, hgr⟩
            · rw [(Bool.not_eq_true _).mp hk] at h6
              clear hk HA
              go_wp2_with fail
              refine (h2 _ hok).mono ?_
              rintro e w11 ⟨rfl, hb11⟩
              have hok := hok.gr hb11
              have hgr := hgr.tr hb11
              go_wp2_with fail
              refine (h1 _).mono ?_
              rintro e w12 ⟨rfl, hb12⟩
              have hok := hok.gr hb12
              have hgr := hgr.tr hb12
              go_wp2_with fail
              refine (h3 _ hok).mono ?_
              rintro e w13 ⟨rfl, hb13⟩
              have hok := hok.gr hb13
              have hgr := hgr.tr hb13
              go_wp2_with fail
              refine (h4 _ hok).mono ?_
              rintro e w14 ⟨rfl, hb14⟩
              have hok := hok.gr hb14
              have hgr := hgr.tr hb14
              go_wp2_with fail
              refine (h6 _ hok).mono ?_
              rintro e w15 ⟨rfl, hb15⟩
              have hok := hok.gr hb15
              have hgr := hgr.tr hb15
              go_wp2_with fail
              refine (h5 _ hok).mono ?_
              rintro e w16 ⟨v7, rfl, o7, hb16⟩
              have hok := hok.gr hb16
              have hgr := hgr.tr hb16
              go_wp2_with fail
              refine (lhasText_any _ _ _ _ (o7.reads (fun _ _ => rfl))).mono ?_
              rintro e w' ⟨rfl, rfl⟩
              rw [HI.out]
              go_wp2
              go_ret
              exact ⟨rfl, hgr⟩
          · rw [(Bool.not_eq_true _).mp hu] at h1 h2 hiff
            have HI := Lib.hid hiff.symm
            clear he he' hiff hu
            go_wp2_with fail
            refine (h2 _ hok).mono ?_
            rintro e w17 ⟨rfl, hb17⟩
            have hok := hok.gr hb17
            have hgr := hgr.tr hb17
            go_wp2_with fail
            refine (h1 _).mono ?_
            rintro e w18 ⟨rfl, hb18⟩
            have hok := hok.gr hb18
            have hgr := hgr.tr hb18
            go_wp2_with fail
            refine (h3 _ hok).mono ?_
            rintro e w19 ⟨rfl, hb19⟩
            have hok := hok.gr hb19
            have hgr := hgr.tr hb19
            go_wp2_with fail
            refine (h4 _ hok).mono ?_
            rintro e w20 ⟨rfl, hb20⟩
            have hok := hok.gr hb20
            have hgr := hgr.tr hb20
            go_wp2_with fail
            refine (h5 _ hok).mono ?_
            rintro e w21 ⟨v7, rfl, o7, hb21⟩
            have hok := hok.gr hb21
            have hgr := hgr.tr hb21
            go_wp2_with fail
            refine (lhasText_any _ _ _ _ (o7.reads (fun _ _ => rfl))).mono ?_
            rintro e w' ⟨rfl, rfl⟩
            rw [HI.out]
            go_wp2
            go_ret
            exact ⟨rfl, hgr⟩
        · rw [(Bool.not_eq_true _).mp hm] at h4
          have hq : ∀ b : Bool, (b == b) = true := by decide
          generalize fUnder (bs s) (bs p) = u at h1 h2
          have q1 := hq u
          have q2 : (u != u) = false := by cases u <;> rfl
          clear he he'
          cases u
          all_goals
            go_wp2_with fail
            refine (h2 _ hok).mono ?_
            rintro e w22 ⟨rfl, hb22⟩
            have hok := hok.gr hb22
            have hgr := hgr.tr hb22
            go_wp2_with fail
            refine (h1 _).mono ?_
            rintro e w23 ⟨rfl, hb23⟩
            have hok := hok.gr hb23
            have hgr := hgr.tr hb23
            go_wp2_with fail
            refine (h3 _ hok).mono ?_
            rintro e w24 ⟨rfl, hb24⟩
            have hok := hok.gr hb24
            have hgr := hgr.tr hb24
            go_wp2_with fail
            refine (h4 _ hok).mono ?_
            rintro e w25 ⟨rfl, hb25⟩
            have hok := hok.gr hb25
            have hgr := hgr.tr hb25
            go_wp2_with fail
            refine (h1 _).mono ?_
            rintro e w26 ⟨rfl, hb26⟩
            have hok := hok.gr hb26
            have hgr := hgr.tr hb26
            go_wp2
            go_ret
            exact ⟨rfl, hgr⟩
    · rw [(Bool.not_eq_true _).mp hn] at h3
      generalize fUnder (bs s) (bs p) = u at h1 h2
      cases u
      all_goals
        go_wp2_with fail
        refine (h2 _ hok).mono ?_
        rintro e w27 ⟨rfl, hb27⟩
        have hok := hok.gr hb27
        have hgr := hgr.tr hb27
        go_wp2_with fail
        refine (h1 _).mono ?_
        rintro e w28 ⟨rfl, hb28⟩
        have hok := hok.gr hb28
        have hgr := hgr.tr hb28
        go_wp2_with fail
        refine (h3 _ hok).mono ?_
        rintro e w29 ⟨rfl, hb29⟩
        have hok := hok.gr hb29
        have hgr := hgr.tr hb29
        go_wp2_with fail
        refine (h1 _).mono ?_
        rintro e w30 ⟨rfl, hb30⟩
        have hok := hok.gr hb30
        have hgr := hgr.tr hb30
        go_wp2
        go_ret
        exact ⟨rfl, hgr⟩
  · go_enter Tryd.func12, Tryd.ntmps12
    go_wp2
    go_ret
    exact ⟨rfl, Below.refl _ _⟩
end Go.Proofs.YtajbamcfkgkhpaaDoor
