/-
  Walks: the names above a name; names resolved and relative, as the laws look at them.
-/
import Derived.Test.YtajbamcfkgkhpaaDoorLawsH
namespace Go.Proofs.YtajbamcfkgkhpaaDoor
open Go Go.RowKit Imp
set_option linter.unusedVariables false

theorem walk_FnExactNamesAbove (w : World) (hok : OkW w) (s : ByteArray) (hs : s.size ≤ maxLen) :
    Calls Tryd.prog 3 #[.string s] w fun e w' => e = .returned (.bool true) ∧ Below w.heap.size w w' := by
  unfold maxLen at hs
  by_cases hbig : s.size ≤ 1048576
  · have hl3 := fAbove_length (bs s)
    have h1 := fun w => sNamesAbove_any s w (by omega)
    have h2 := fun w h => iNamesAbove_any s w (by omega) h
    generalize fAbove (bs s) = P at h1 h2 hl3
    have hlen : (P.map mk).length ≤ 3 := by rw [List.length_map]; exact hl3
    obtain ⟨Q, hQ⟩ : ∃ Q, Q = P.map mk := ⟨_, rfl⟩
    rw [← hQ] at hlen
    have HQ := Lib.hid hQ
    obtain ⟨N, hN, hN0⟩ : ∃ N : Int, N = ((1 + Q.length : Nat) : Int) ∧ 0 ≤ N := ⟨_, rfl, by omega⟩
    have hm := fun (b : Nat) v W (h : Own W b 9 1 eS v Q) => markStringS_any v Q 1 W h (Nat.le_refl _) (by omega)
    have hh := fun (lo hi : Nat) v W (h : SlR W lo hi 1 eS v (marksS 1 Q.length)) h' => heldStringS_any v Q.length 1 W h h' (Nat.le_refl _) (by omega)
    rw [← hN] at hm hh
    have hlt0 : decide (N < 0) = false := decide_eq_false (by omega)
    have hne0 : (N != N) = false := by simp
    clear hN hQ
    go_enter Tryd.func3, Tryd.ntmps3
    go_wp2_with fail
    refine (h1 _).mono ?_
    rintro e w1 ⟨v0, rfl, o0, hb1⟩
    have o0 := own_eS o0
    rw [← HQ.out] at o0
    have r0 := o0.reads (fun _ _ => rfl)
    go_wp2_with fail
    refine (h2 _ (hok.gr hb1)).mono ?_
    rintro e w2 ⟨v1, rfl, o1, hb2⟩
    have o1 := own_eS o1
    rw [← HQ.out] at o1
    have r0 := r0.below hb2 (Nat.le_refl _)
    have s2 := hb2.size
    go_wp2_with fail
    refine (eqStringS_any _ _ Q Q _ (o1.reads (fun _ _ => rfl)) r0).mono ?_
    rintro e w2' ⟨rfl, n, rfl⟩
    have r0 := r0.drewN n
    go_wp2_with fail
    refine (hm _ _ _ (o1.drewN n)).mono ?_
    rintro e w3 ⟨rfl, o3, hg3⟩
    have ob := o1.block
    have r3 := o3.reads (fun _ _ => rfl)
    have r0 := slr_grown r0 hg3 s2 (fun b e => (ob b e).1)
    have hb3 : Gr w w3 := Below.grown (below_drewN (hb1.tr hb2) n) hg3 (hb1.tr hb2).size (fun b e => Nat.le_trans hb1.size (ob b e).1)
    have s3 : w2.heap.size ≤ w3.heap.size := hg3.size
    go_wp2_with fail
    refine (hh _ _ _ _ r3 (Nat.le_refl _)).mono ?_
    rintro e w4 ⟨rfl, hb4⟩
    have s4 := hb4.size
    have r0 := r0.below hb4 (by omega)
    go_wp2_with fail
    refine (h2 _ (hok.gr (hb3.tr hb4))).mono ?_
    rintro e w5 ⟨v5, rfl, o5, hb5⟩
    have o5 := own_eS o5
    rw [← HQ.out] at o5
    have s5 := hb5.size
    have r0 := r0.below hb5 (by omega)
    have r3 := r3.below (hb4.tr hb5) (Nat.le_refl _)
    go_wp2_with fail
    refine (eqStringS_any _ _ Q Q _ (o5.reads (fun _ _ => rfl)) r0).mono ?_
    rintro e w6 ⟨rfl, n6, rfl⟩
    go_wp2_with fail
    refine (hh _ _ _ _ (r3.drewN n6) (by show w3.heap.size ≤ w5.heap.size; omega)).mono ?_
    rintro e w7 ⟨rfl, hb7⟩
    go_wp2
    go_ret
    exact ⟨rfl, Gr.tr (below_drewN ((hb3.tr hb4).tr hb5) n6) hb7⟩
  · go_enter Tryd.func3, Tryd.ntmps3
    go_wp2
    go_ret
    exact ⟨rfl, Below.refl _ _⟩
theorem DrawResolveName_any {lo hi : Nat} (v : Value) (L : List UInt8) (w : World) (hv : SlR w lo hi 1 eB v L) (hhi : hi ≤ w.heap.size) (hl : L.length ≤ 1048576) :
    Calls Tryd.prog 25 #[v] w fun e w' => ∃ p : ByteArray, ∃ n : Int, ∃ s : ByteArray, e = .returned (.tuple #[.string p, .int .i64 n, .string s]) ∧ p.size ≤ 7 ∧ -1 ≤ n ∧ n ≤ 5 ∧ s.size ≤ 7 ∧ Gr w w' := by
  go_enter Tryd.func25, Tryd.ntmps25
  go_wp2_with fail
  refine (newReader_any v L w hv hhi hl).mono ?_
  rintro e w1 ⟨rfl, hr, hsz, hb⟩
  go_wp2_with fail
  refine (anyPackage_any _ _ w1 hr (by omega)).mono ?_
  rintro e w2 ⟨p, p1, rfl, hp, hr2, hp1, hg2⟩
  go_wp2_with fail
  refine (one_lit _ p1 [1, 0, 2, 3, 4, 5, -1] w2 hr2 (by omega) (by decide) (by decide)).mono ?_
  rintro e w3 ⟨n, rfl, hn, hr3, hg3⟩
  have hn' : -1 ≤ n ∧ n ≤ 5 := by simp at hn; omega
  clear hn
  go_wp2_with fail
  refine (anyPackage_any _ (p1 + 1) w3 hr3 (by omega)).mono ?_
  rintro e w4 ⟨s, p2, rfl, hs, hr4, hp2, hg4⟩
  go_wp2
  go_ret3
  exact ⟨p, n, s, rfl, hp, hn'.1, hn'.2, hs, hb.grown (grown_trans (grown_trans hg2 hg3) hg4) (by omega) (fun k hk => by injection hk with hk; omega)⟩
theorem walk_FnResolveName (w : World) (hok : OkW w) (v : Value) (L : List UInt8) (hv : SlR w 0 w.heap.size 1 eB v L) :
    Calls Tryd.prog 5 #[v] w fun e w' => e = .returned (.bool true) ∧ Below w.heap.size w w' := by
  have hlen := hv.len_le
  have hv0 := hv
  obtain ⟨a, c, rfl, _, _⟩ := hv.form
  unfold maxLen at hlen
  by_cases hbig : L.length ≤ 1048576
  · have hd : decide ((1048576 : Int) < (L.length : Int)) = false := decide_eq_false (by omega)
    go_enter Tryd.func5, Tryd.ntmps5
    go_wp2_with fail
    refine (DrawResolveName_any _ L _ hv0 (Nat.le_refl _) hbig).mono ?_
    rintro e w1 ⟨p, n, s, rfl, hp, hn1, hn2, hs, hb1⟩
    have hok := hok.gr hb1
    have hgr := hb1
    have h1 := fun w => sResolveName_any p n s w (by omega) (by omega)
    have h2 := fun w h => iResolveName_any p n s w (by omega) (by omega) h
    obtain ⟨R, hR⟩ : ∃ R, R = mk (fRes (bs p) n (bs s)) := ⟨_, rfl⟩
    rw [← hR] at h1 h2
    have hRb : bs R = fRes (bs p) n (bs s) := by rw [hR]
    have hRe := emp_of hRb
    have q1 := beq_same R
    have q2 := bne_same R
    by_cases hz : fRes (bs p) n (bs s) = []
    · rw [hz, List.isEmpty_nil] at hRe
      clear hz hRb hR
      go_wp2_with fail
      refine (h2 _ hok).mono ?_
      rintro e w2 ⟨rfl, hb2⟩
      have hok := hok.gr hb2
      have hgr := hgr.tr hb2
      go_wp2_with fail
      refine (h1 _).mono ?_
      rintro e w3 ⟨rfl, hb3⟩
      have hok := hok.gr hb3
      have hgr := hgr.tr hb3
      go_wp2_with fail
      refine (h1 _).mono ?_
      rintro e w4 ⟨rfl, hb4⟩
      have hok := hok.gr hb4
      have hgr := hgr.tr hb4
      go_wp2
      go_ret
      exact ⟨rfl, hgr⟩
    · rw [emp_false hz] at hRe
      have hRn := res_name hz
      rw [← hRb] at hRn
      have hRs : R.size ≤ 11 := by have := vName_length hRn; rw [bs_length] at this; exact this
      by_cases h0 : n = 0
      · have he : s = R := by rw [← mk_bs s, hR, res_zero h0 hz]
        subst h0
        clear hz hRb hR hRn
        subst he
        go_wp2_with fail
        refine (h2 _ hok).mono ?_
        rintro e w2 ⟨rfl, hb2⟩
        have hok := hok.gr hb2
        have hgr := hgr.tr hb2
        go_wp2_with fail
        refine (h1 _).mono ?_
        rintro e w3 ⟨rfl, hb3⟩
        have hok := hok.gr hb3
        have hgr := hgr.tr hb3
        go_wp2
        go_ret
        exact ⟨rfl, hgr⟩
      · have hn3 : 1 ≤ n := by obtain ⟨_, _, h, _⟩ := okRes_iff (fRes_some hz).1; omega
        have hpn := res_pkg hn3 hz
        have h3 := fun w h => iResolveName_any p 1 ⟨#[]⟩ w (by omega) (by decide) h
        rw [show bs (⟨#[]⟩ : ByteArray) = [] from rfl, res_self hpn, mk_bs] at h3
        have h4 := fun w h => iValidName_any R w (by omega) h
        rw [hRn] at h4
        have h5 := fun w h => iParentOf_any p w (by omega) h
        obtain ⟨y, hy⟩ : ∃ y, y = mk (fParent (bs p)) := ⟨_, rfl⟩
        have hyb : bs y = fParent (bs p) := by rw [hy]
        have hys : y.size ≤ 11 := by
          have e : fParent (bs p) = parentP (bs p) := by rw [fParent, hpn]; rfl
          have := vPkg_length (parent_pkg hpn)
          rw [← e, ← hyb, bs_length] at this; exact this
        rw [← hy] at h5
        have h6 := fun w h => iResolveName_any y (n - 1) s w (by omega) (by omega) h
        rw [hyb] at h6
        have hstep : 1 < n → mk (fRes (fParent (bs p)) (n - 1) (bs s)) = R := fun h => by rw [hR, res_step h hz]
        have HST := Lib.hid hstep
        have hse := isEmpty_toList s
        have hpe := beq_same p
        have hend : bs s = [] ∨ (bs s ≠ [] ∧ s.size ≤ R.size ∧ ((R.extract (R.size - s.size) R.size).toList == s.toList) = true) := by
          rcases res_end hz with h | ⟨h, k⟩
          · exact .inl h
          · by_cases hs0 : bs s = []
            · exact .inl hs0
            · rw [← hRb, bs_length, bs_length] at h k
              refine .inr ⟨hs0, h, ?_⟩
              rw [beq_toList]
              refine decide_eq_true ?_
              have e : R.extract (R.size - s.size) R.size = mk (((bs R).drop (R.size - s.size)).take (R.size - (R.size - s.size))) := by
                conv => lhs; rw [← mk_bs R]
                rw [extract_mk, mk_size, bs_length]
              rw [e, bs_mk, k]
              exact List.take_of_length_le (by rw [bs_length]; omega)
        have HE := Lib.hid hend
        have hw1 : IntKind.i64.wrap (n - 1) = n - 1 := IntWalk.i64_in _ (by omega)
        have hw2 : IntKind.i64.wrap ((R.size : Int) - (s.size : Int)) = (R.size : Int) - (s.size : Int) := IntWalk.i64_in _ (by omega)
        have hw3 : ((R.size : Int) - (s.size : Int)).toNat = R.size - s.size := by omega
        clear hz hRb hR hRn hy hyb hstep hend hpn
        by_cases hn4 : 1 < n
        · rw [HST.out hn4] at h6
          rcases HE.out with hs0 | ⟨hs0, hle, hext⟩
          · rw [hs0, List.isEmpty_nil] at hse
            clear hs0 HE HST
            go_wp2_with fail
            refine (h2 _ hok).mono ?_
            rintro e w2 ⟨rfl, hb2⟩
            have hok := hok.gr hb2
            have hgr := hgr.tr hb2
            go_wp2_with fail
            refine (h1 _).mono ?_
            rintro e w3 ⟨rfl, hb3⟩
            have hok := hok.gr hb3
            have hgr := hgr.tr hb3
            go_wp2_with fail
            refine (h5 _ hok).mono ?_
            rintro e w4 ⟨rfl, hb4⟩
            have hok := hok.gr hb4
            have hgr := hgr.tr hb4
            go_wp2_with fail
            refine (h6 _ hok).mono ?_
            rintro e w5 ⟨rfl, hb5⟩
            have hok := hok.gr hb5
            have hgr := hgr.tr hb5
            go_wp2_with fail
            refine (h3 _ hok).mono ?_
            rintro e w6 ⟨rfl, hb6⟩
            have hok := hok.gr hb6
            have hgr := hgr.tr hb6
            go_wp2_with fail
            refine (h4 _ hok).mono ?_
            rintro e w7 ⟨rfl, hb7⟩
            have hok := hok.gr hb7
            have hgr := hgr.tr hb7
            go_wp2
            go_ret
            exact ⟨rfl, hgr⟩
          · rw [emp_false hs0] at hse
            have hle' : (s.size : Int) ≤ (R.size : Int) := by omega
            have hle2 : 0 ≤ (R.size : Int) - (s.size : Int) := by omega
            have hle3 : (R.size : Int) - (s.size : Int) ≤ (R.size : Int) := by omega
            clear hs0 HE HST
            go_wp2_with fail
            refine (h2 _ hok).mono ?_
            rintro e w2 ⟨rfl, hb2⟩
            have hok := hok.gr hb2
            have hgr := hgr.tr hb2
            go_wp2_with fail
            refine (h1 _).mono ?_
            rintro e w3 ⟨rfl, hb3⟩
            have hok := hok.gr hb3
            have hgr := hgr.tr hb3
            go_wp2_with fail
            refine (h5 _ hok).mono ?_
            rintro e w4 ⟨rfl, hb4⟩
            have hok := hok.gr hb4
            have hgr := hgr.tr hb4
            go_wp2_with fail
            refine (h6 _ hok).mono ?_
            rintro e w5 ⟨rfl, hb5⟩
            have hok := hok.gr hb5
            have hgr := hgr.tr hb5
            go_wp2_with fail
            refine (h3 _ hok).mono ?_
            rintro e w6 ⟨rfl, hb6⟩
            have hok := hok.gr hb6
            have hgr := hgr.tr hb6
            go_wp2_with fail
            refine (h4 _ hok).mono ?_
            rintro e w7 ⟨rfl, hb7⟩
            have hok := hok.gr hb7
            have hgr := hgr.tr hb7
            go_wp2
            go_ret
            exact ⟨rfl, hgr⟩
        · rcases HE.out with hs0 | ⟨hs0, hle, hext⟩
          · rw [hs0, List.isEmpty_nil] at hse
            clear hs0 HE HST
            go_wp2_with fail
            refine (h2 _ hok).mono ?_
            rintro e w2 ⟨rfl, hb2⟩
            have hok := hok.gr hb2
            have hgr := hgr.tr hb2
            go_wp2_with fail
            refine (h1 _).mono ?_
            rintro e w3 ⟨rfl, hb3⟩
            have hok := hok.gr hb3
            have hgr := hgr.tr hb3
            go_wp2_with fail
            refine (h3 _ hok).mono ?_
            rintro e w4 ⟨rfl, hb4⟩
            have hok := hok.gr hb4
            have hgr := hgr.tr hb4
            go_wp2_with fail
            refine (h4 _ hok).mono ?_
            rintro e w5 ⟨rfl, hb5⟩
            have hok := hok.gr hb5
            have hgr := hgr.tr hb5
            go_wp2
            go_ret
            exact ⟨rfl, hgr⟩
          · rw [emp_false hs0] at hse
            have hle' : (s.size : Int) ≤ (R.size : Int) := by omega
            have hle2 : 0 ≤ (R.size : Int) - (s.size : Int) := by omega
            have hle3 : (R.size : Int) - (s.size : Int) ≤ (R.size : Int) := by omega
            clear hs0 HE HST
            go_wp2_with fail
            refine (h2 _ hok).mono ?_
            rintro e w2 ⟨rfl, hb2⟩
            have hok := hok.gr hb2
            have hgr := hgr.tr hb2
            go_wp2_with fail
            refine (h1 _).mono ?_
            rintro e w3 ⟨rfl, hb3⟩
            have hok := hok.gr hb3
            have hgr := hgr.tr hb3
            go_wp2_with fail
            refine (h3 _ hok).mono ?_
            rintro e w4 ⟨rfl, hb4⟩
            have hok := hok.gr hb4
            have hgr := hgr.tr hb4
            go_wp2_with fail
            refine (h4 _ hok).mono ?_
            rintro e w5 ⟨rfl, hb5⟩
            have hok := hok.gr hb5
            have hgr := hgr.tr hb5
            go_wp2
            go_ret
            exact ⟨rfl, hgr⟩
  · go_enter Tryd.func5, Tryd.ntmps5
    go_wp2
    go_ret
    exact ⟨rfl, Below.refl _ _⟩
theorem walk_FnRelativeName (w : World) (hok : OkW w) (v : Value) (L : List UInt8) (hv : SlR w 0 w.heap.size 1 eB v L) :
    Calls Tryd.prog 7 #[v] w fun e w' => e = .returned (.bool true) ∧ Below w.heap.size w w' := by
  have hlen := hv.len_le
  have hv0 := hv
  obtain ⟨a, c, rfl, _, _⟩ := hv.form
  unfold maxLen at hlen
  by_cases hbig : L.length ≤ 1048576
  · have hd : decide ((1048576 : Int) < (L.length : Int)) = false := decide_eq_false (by omega)
    go_enter Tryd.func7, Tryd.ntmps7
    go_wp2_with fail
    refine (DrawRelativeName_any _ L _ hv0 (Nat.le_refl _) hbig).mono ?_
    rintro e w1 ⟨p, s, rfl, hp, hs, hb1⟩
    have hok := hok.gr hb1
    have hgr := hb1
    have h1 := fun w => sRelativeName_any p s w (by omega) (by omega)
    have h2 := fun w h => iRelativeName_any p s w (by omega) (by omega) h
    unfold relVal at h1 h2
    obtain ⟨N, hN⟩ : ∃ N, N = (fRelV (bs p) (bs s)).1 := ⟨_, rfl⟩
    obtain ⟨T, hT⟩ : ∃ T, T = mk (fRelV (bs p) (bs s)).2 := ⟨_, rfl⟩
    rw [← hN, ← hT] at h1 h2
    have q1 := beq_same T
    have q2 := bne_same T
    by_cases hz : N = 0
    · clear hN hT
      subst hz
      go_wp2_with fail
      refine (h2 _ hok).mono ?_
      rintro e w2 ⟨rfl, hb2⟩
      have hok := hok.gr hb2
      have hgr := hgr.tr hb2
      go_wp2_with fail
      refine (h1 _).mono ?_
      rintro e w3 ⟨rfl, hb3⟩
      have hok := hok.gr hb3
      have hgr := hgr.tr hb3
      go_wp2
      go_ret
      exact ⟨rfl, hgr⟩
    · obtain ⟨hpn, hsn, m, hm, hNm, hU, hres, hTl⟩ := rel_law (p := bs p) (s := bs s) (by rw [← hN]; exact hz)
      have hTb : bs T = (fRelV (bs p) (bs s)).2 := by rw [hT]
      rw [← hTb] at hres hTl
      rw [← hN] at hNm
      have hTs : T.size ≤ 11 := by rw [bs_length] at hTl; exact hTl
      have hlast := fun w h => iResolveName_any p ((m : Int) + 1) T w (by omega) (by omega) h
      rw [hres, mk_bs] at hlast
      have hstep := fun (j : Nat) w h => iParentOf_any (mk (upP j (bs p))) w (by rw [mk_size]; have := vPkg_length (upP_pkg j (vPkg_of hpn)); omega) h
      have hstep : ∀ (j : Nat) (w : World), OkW w → Calls Tryd.prog 28 #[.string (mk (upP j (bs p)))] w fun e w' => e = .returned (.string (mk (upP (j + 1) (bs p)))) ∧ Gr w w' := by
        intro j w h
        have := hstep j w h
        rw [bs_mk, up_parent hpn] at this
        exact this
      have hund : ∀ (k : Nat) (w : World), k < m → OkW w → Calls Tryd.prog 38 #[.string s, .string (mk (upP k (bs p)))] w fun e w' => e = .returned (.bool false) ∧ Gr w w' := by
        intro k w hk h
        have := iIsUnder_any s (mk (upP k (bs p))) w (by omega) (by rw [mk_size]; have := vPkg_length (upP_pkg k (vPkg_of hpn)); omega) h
        rw [bs_mk, hU k hk] at this
        exact this
      have HS := Lib.hid hstep
      have HU := Lib.hid hund
      have HL := Lib.hid hlast
      have hN2 : (N : Int) = (m : Int) + 1 := by omega
      have q3 := beq_same s
      have hp0 : p = mk (upP 0 (bs p)) := (mk_bs p).symm
      have HP := Lib.hid hp0
      clear hN hT hNm hU hres hTl hTb hpn hsn hstep hund hlast hz hp0
      rw [hN2] at h1 h2
      clear hN2
      have hm1 : (((m : Int) + 1) == 0) = false := by rw [beq_eq_false_iff_ne]; omega
      go_wp2_with fail
      refine (h2 _ hok).mono ?_
      rintro e w2 ⟨rfl, hb2⟩
      have hok := hok.gr hb2
      have hgr := hgr.tr hb2
      go_wp2_with fail
      refine (h1 _).mono ?_
      rintro e w3 ⟨rfl, hb3⟩
      have hok := hok.gr hb3
      have hgr := hgr.tr hb3
      go_wp2
      go_loopw [9] (fun i wr => ∃ k : Nat, k ≤ m ∧ i = .int .i64 ((k : Int) + 1) ∧ Gr w wr ∧ OkW wr) (fun i _ => m + 2 - (intOf i).toNat)
      case atStart => exact ⟨0, Nat.zero_le _, rfl, hgr, hok⟩
      case round =>
        obtain ⟨k, hk, rfl, hgr, hok⟩ := hrel
        have hkw : IntKind.i64.wrap ((k : Int) + 1 + 1) = (k : Int) + 1 + 1 := IntWalk.i64_in _ (by omega)
        by_cases hlt : (k : Int) + 1 < (m : Int) + 1
        · go_wp2
          go_loopw [10, 11] (fun b i wr => ∃ j : Nat, j ≤ k ∧ i = .int .i64 ((j : Int) + 1) ∧ b = .string (mk (upP j (bs p))) ∧ Gr w wr ∧ OkW wr) (fun _ i _ => k + 2 - (intOf i).toNat)
          case atStart => exact ⟨0, Nat.zero_le _, rfl, by rw [← HP.out], hgr, hok⟩
          case round =>
            obtain ⟨j, hj, rfl, rfl, hgr, hok⟩ := hrel
            have hjw : IntKind.i64.wrap ((j : Int) + 1 + 1) = (j : Int) + 1 + 1 := IntWalk.i64_in _ (by omega)
            by_cases hjl : (j : Int) + 1 < (k : Int) + 1
            · go_wp2_with fail
              refine (HS.out j _ hok).mono ?_
              rintro e w10 ⟨rfl, hb10⟩
              have hok := hok.gr hb10
              have hgr := hgr.tr hb10
              go_wp2
              go_roundw
              case rel => exact ⟨j + 1, by omega, by go_num, rfl, hgr, hok⟩
              case measure => simp [intOf]; omega
            · have ejk : j = k := by omega
              subst ejk
              go_wp2_with fail
              refine (HU.out j _ (by omega) hok).mono ?_
              rintro e w10 ⟨rfl, hb10⟩
              have hok := hok.gr hb10
              have hgr := hgr.tr hb10
              go_wp2
              go_roundw
              case rel => exact ⟨j + 1, by omega, by go_num, hgr, hok⟩
              case measure => simp [intOf]; omega
        · go_wp2_with fail
          refine (HL.out _ hok).mono ?_
          rintro e w10 ⟨rfl, hb10⟩
          have hok := hok.gr hb10
          have hgr := hgr.tr hb10
          go_wp2
          go_ret
          exact ⟨rfl, hgr⟩
  · go_enter Tryd.func7, Tryd.ntmps7
    go_wp2
    go_ret
    exact ⟨rfl, Below.refl _ _⟩
end Go.Proofs.YtajbamcfkgkhpaaDoor
