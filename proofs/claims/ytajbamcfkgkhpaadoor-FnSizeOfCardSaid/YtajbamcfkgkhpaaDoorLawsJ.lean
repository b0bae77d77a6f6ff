/-
  Walks: parts drawn and joined.
-/
import Derived.Test.YtajbamcfkgkhpaaDoorLawsH
namespace Go.Proofs.YtajbamcfkgkhpaaDoor
open Go Go.RowKit Imp
set_option linter.unusedVariables false

theorem Rdr.grown {w w' : World} {g p : Nat} {r : Option Nat} (h : Rdr w g p) (k : w.grownBy w' r) (hne : ∀ b, r = some b → g < b) : Rdr w' g p := by
  have hlt := h.lt
  obtain ⟨bv, M, hg, hM, h1, h2⟩ := h
  refine ⟨bv, M, (k.block g hlt ?_).trans hg, hM.keep (Same.of_grown k (by omega) (fun b e => .inr (by have := hne b e; omega))), h1, h2⟩
  intro e
  have := hne g e.symm
  omega
theorem Own.keepR {α : Type} {enc : α → List Value} {w w' : World} {base e k g : Nat} {v : Value} {L : List α} (h : Own w base e k enc v L) (hg : w.grownBy w' (some g)) (hb : g < base) : Own w' base e k enc v L :=
  h.keep (fun b e => hg.block b (h.block b e).2 (by intro q; injection q with q; have := (h.block b e).1; omega))
theorem slr_cell {w : World} {lo hi n c : Nat} {a : Option Addr} {P : List (List UInt8)} (h : SlR w lo hi 1 eL (.slice a n c) P) {k : Nat} (hk : k < P.length) :
    ∃ b o, a = some ⟨b, o, none⟩ ∧ b < hi ∧ w.cell? ⟨b, o + k, none⟩ = some (.string (mk P[k])) := by
  obtain ⟨a', c', e, h1, h2, h3⟩ := h
  injection e with e1 e2 e3
  subst e1
  obtain ⟨b, o, e', hb, hc⟩ := h3 k hk
  refine ⟨b, o, e', hb.2, ?_⟩
  have := hc 0 _ rfl
  simpa using this
theorem below_drewN' {a b c : World} {n : Nat} (h : Gr a b) (k : Gr (b.drewN n) c) : Gr a c := Gr.tr (below_drewN h n) k
theorem gr_cell {w w' : World} (h : Gr w w') {b o : Nat} {x : Value} (hb : b < w.heap.size) (c : w.cell? ⟨b, o, none⟩ = some x) : w'.cell? ⟨b, o, none⟩ = some x := by
  rw [World.cell?_of_block (w := w) (a := ⟨b, o, none⟩) (h.block b hb)]
  exact c

theorem DrawJoinParts_any {lo hi : Nat} (v : Value) (L : List UInt8) (w : World) (hv : SlR w lo hi 1 eB v L) (hhi : hi ≤ w.heap.size) (hl : L.length ≤ 1048576) :
    Calls Tryd.prog 53 #[v] w fun e w' => ∃ u, e = .returned u ∧ ∃ Q : List ByteArray, Own w' w.heap.size 9 1 eS u Q ∧ Q.length ≤ 4 ∧ (∀ s ∈ Q, s.size ≤ 4) ∧ Gr w w' := by
  go_enter Tryd.func53, Tryd.ntmps53
  go_wp2_with fail
  refine (newReader_any v L w hv hhi hl).mono ?_
  rintro e w1 ⟨rfl, hr, hsz, hb⟩
  have hown : Own (w1.alloc (.cells #[] 9)) (w.heap.size + 1) 9 1 eS (.slice (some ⟨w1.heap.size, 0, none⟩) 0 0) ([] : List ByteArray) := Own.empty w1 (w.heap.size + 1) 9 1 eS (by omega)
  have hone := one_lit w.heap.size 0 [1, 2, 3, 0, 4] (w1.alloc (.cells #[] 9)) (hr.al _) (by omega) (by decide) (by decide)
  have hsz1 : (w1.alloc (.cells #[] 9)).heap.size = w.heap.size + 1 + 1 := by simp [hsz]
  rw [hsz1] at hone
  have HONE := Lib.hid hone
  rw [hsz] at hown
  clear hone
  go_wp2_with fail
  refine HONE.out.mono ?_
  rintro e w2 ⟨n, rfl, hn, hr2, hg2⟩
  have hown := Own.keepR hown hg2 (by omega)
  have hb0 : Gr w (w1.alloc (.cells #[] 9)) := hb.alloc (by omega) _
  have hb2 : Gr w w2 := hb0.grown hg2 (by simp; omega) (fun k hk => by injection hk with hk; omega)
  have hn4 : 0 ≤ n ∧ n ≤ 4 := by simp at hn; omega
  obtain ⟨m, rfl⟩ : ∃ m : Nat, n = m := ⟨n.toNat, by omega⟩
  clear hr hn hb0 hg2
  go_wp2
  go_loopw [4, 5] (fun o i wr => ∃ k : Nat, i = .int .i64 k ∧ ∃ Q : List ByteArray, Own wr (w.heap.size + 1) 9 1 eS o Q ∧ Q.length + k ≤ 4 ∧ (∀ s ∈ Q, s.size ≤ 4) ∧ ∃ p, Rdr wr w.heap.size p ∧ p + 2 * k ≤ 9 ∧ Gr w wr) (fun _ i _ => (intOf i).toNat)
  case atStart => exact ⟨m, rfl, [], hown, by simp; omega, by simp, 1, hr2, by omega, hb2⟩
  case round =>
    obtain ⟨k, rfl, Q, hown, hql, hqs, p, hR, hp, hgr⟩ := hrel
    by_cases hlt : 0 < k
    · have HQ := Lib.hid hqs
      clear hqs
      have hkw : IntKind.i64.wrap ((k : Int) - 1) = (k : Int) - 1 := IntWalk.i64_in _ (by omega)
      have hRlt := hR.lt
      go_wp2_with fail
      refine (anyPart_any w.heap.size p wr hR (by omega)).mono ?_
      rintro e w3 ⟨s, p', rfl, hs, hr3, hp', hg3⟩
      have hown3 := Own.keepR hown hg3 (by omega)
      have hgr3 : Gr w w3 := hgr.grown hg3 (by have := hgr.size; omega) (fun k hk => by injection hk with hk; omega)
      have hs3 := hgr3.size
      go_wp2_with (at_builtin
                   refine wpList_app _ rfl (.tmp 16) (.tmp 19) ti_strs rfl rfl (hown3.alloc _) rfl (SlR.one w3 w3.heap.size s 9 (Nat.le_refl _) rfl) (fun _ _ => rfl) (by simp [eS, Value.oneCell']) (by unfold maxLen; simp; omega) (by simp; omega) (by simp; omega) ?_
                   intro v4 w4 hown4 hg4 hat4)
      go_roundw
      case rel =>
        refine ⟨k - 1, by go_num, Q ++ [s], hown4, by simp; omega, ?_, p', (hr3.al _).grown hg4 (fun b hb => by have := (hown3.block b hb).1; omega), by omega, (hgr3.alloc hs3 _).grown hg4 (by simp; omega) (fun b hb => by have := (hown3.block b hb).1; omega)⟩
        intro x hx
        rw [List.mem_append, List.mem_singleton] at hx
        rcases hx with hx | rfl
        · exact HQ.out x hx
        · exact hs
      case measure => simp [intOf]; omega
    · go_wp2
      go_ret
      exact ⟨_, rfl, Q, hown.mono (by omega), by omega, hqs, hgr⟩
set_option maxHeartbeats 3200000 in
theorem walk_FnJoinParts (w : World) (hok : OkW w) (v : Value) (L : List UInt8) (hv : SlR w 0 w.heap.size 1 eB v L) :
    Calls Tryd.prog 13 #[v] w fun e w' => e = .returned (.bool true) ∧ Below w.heap.size w w' := by
  have hlen := hv.len_le
  have hv0 := hv
  obtain ⟨a, c, rfl, _, _⟩ := hv.form
  unfold maxLen at hlen
  by_cases hbig : L.length ≤ 1048576
  · have hd : decide ((1048576 : Int) < (L.length : Int)) = false := decide_eq_false (by omega)
    go_enter Tryd.func13, Tryd.ntmps13
    go_wp2_with fail
    refine (DrawJoinParts_any _ L _ hv0 (Nat.le_refl _) hbig).mono ?_
    rintro e w1 ⟨u, rfl, Q, o1, hql, hqs, hb1⟩
    have hok := hok.gr hb1
    have hgr := hb1
    have r1 := slr_eL (o1.reads (fun _ _ => rfl))
    obtain ⟨P, hP⟩ : ∃ P, P = Q.map bs := ⟨_, rfl⟩
    have hpl : P.length ≤ 4 := by rw [hP, List.length_map]; exact hql
    have hps : ∀ p ∈ P, p.length ≤ 4 := by
      intro p hp; rw [hP, List.mem_map] at hp; obtain ⟨s, hs, rfl⟩ := hp; rw [bs_length]; exact hqs s hs
    have hjl : (jn P).length ≤ 100 := by
      have h1 := jn_tot Q
      have h2 : totS Q ≤ 4 * Q.length := by
        clear hP r1 o1 hpl hps h1 hql
        induction Q with
        | nil => simp [totS]
        | cons x q ih =>
          rw [totS, List.length_cons]
          have := ih (fun s hs => hqs s (List.mem_cons_of_mem _ hs))
          have := hqs x (List.mem_cons_self ..)
          omega
      rw [hP]; omega
    have hlq : (Q.length : Int) = (P.length : Int) := by rw [hP, List.length_map]
    rw [← hP] at r1
    clear hP hqs
    obtain ⟨a1, c1, e1, hc1, hc2⟩ := r1.form
    subst e1
    have h1 := fun W (h : Gr w1 W) => sJoinParts_any _ P W (r1.below h (Nat.le_refl _)) h.size (fun p hp => by have := hps p hp; omega) (by omega)
    have h2 := fun W (h : Gr w1 W) k => iJoinParts_any _ P W (r1.below h (Nat.le_refl _)) h.size (fun p hp => by have := hps p hp; omega) (by omega) (by omega) k
    obtain ⟨R, hR⟩ : ∃ R, R = mk (fJoin P) := ⟨_, rfl⟩
    rw [← hR] at h1 h2
    have hRb : bs R = fJoin P := by rw [hR]
    have hRe := emp_of hRb
    have q1 := beq_same R
    have q2 := bne_same R
    have hg1 := Gr.rfl' w1
    by_cases hz : fJoin P = []
    · rw [hz, List.isEmpty_nil] at hRe
      clear hz hRb hR hps
      go_wp2_with fail
      refine (h2 _ hg1 hok).mono ?_
      rintro e w2 ⟨rfl, hb2⟩
      have hok := hok.gr hb2
      have hgr := hgr.tr hb2
      have hg1 := hg1.tr hb2
      go_wp2_with fail
      refine (h1 _ hg1).mono ?_
      rintro e w3 ⟨rfl, hb3⟩
      have hok := hok.gr hb3
      have hgr := hgr.tr hb3
      have hg1 := hg1.tr hb3
      go_wp2_with fail
      refine (h1 _ hg1).mono ?_
      rintro e w4 ⟨rfl, hb4⟩
      have hok := hok.gr hb4
      have hgr := hgr.tr hb4
      go_wp2
      go_ret
      exact ⟨rfl, hgr⟩
    · rw [emp_false hz] at hRe
      have hall : (∀ p ∈ P, vPart p = true) ∧ vName (jn P) = true ∧ fJoin P = jn P := by
        unfold fJoin at hz ⊢
        by_cases hh : (P.all vPart && vName (jn P)) = true
        · rw [if_pos hh]
          rw [Bool.and_eq_true] at hh
          exact ⟨List.all_eq_true.mp hh.1, hh.2, rfl⟩
        · rw [if_neg hh] at hz; exact absurd rfl hz
      obtain ⟨hp1, hp2, hp3⟩ := hall
      obtain ⟨hf, hne⟩ := parts_join hp1 hp2
      have hRj : bs R = jn P := by rw [hRb, hp3]
      have hRs : R.size ≤ 100 := by rw [← bs_length, hRj]; exact hjl
      have h3 := fun w h => iPartsOf_any R w (by omega) h
      have h4 := fun w h => iLastOf_any R w (by omega) h
      obtain ⟨hi, hx⟩ := fParts_last hp2
      rw [hRj] at h3 h4
      rw [fLast, hp2, if_pos rfl, ← hx] at h4
      rw [hf] at h3
      have hpos : 0 < P.length := List.length_pos_iff.mpr hne
      have hlast : ∀ h : P.length - 1 < P.length, (fParts (jn P))[(fParts (jn P)).length - 1] = P[P.length - 1] := by
        intro h; congr 1 <;> rw [hf]
      obtain ⟨y, hy⟩ : ∃ y, y = mk P[P.length - 1] := ⟨_, rfl⟩
      rw [hlast (by omega), ← hy] at h4
      have hcell := fun W (h : Gr w1 W) => slr_cell (r1.below h (Nat.le_refl _)) (k := P.length - 1) (by omega)
      rw [← hy] at hcell
      obtain ⟨b, o, rfl, hbb, c0⟩ := hcell _ hg1
      have hcell := fun W (h : Gr w1 W) => gr_cell h hbb c0
      have HC := Lib.hid hcell
      have H1 := Lib.hid r1
      have hq : IntKind.i64.wrap ((P.length : Int) - 1) = (P.length : Int) - 1 := IntWalk.i64_in _ (by omega)
      have hq1 : ((P.length : Int) - 1).toNat = P.length - 1 := by omega
      have hq2 : 0 ≤ (P.length : Int) - 1 := by omega
      have q3 := beq_same y
      have hq3 : (1 : Int) ≤ (P.length : Int) := by omega
      have hq4 : (P.length : Int) - 1 < (P.length : Int) := by omega
      clear hz hRb hR hps hp1 hp2 hp3 hf hRj hi hx hlast hy hcell r1
      go_wp2_with fail
      refine (h2 _ hg1 hok).mono ?_
      rintro e w2 ⟨rfl, hb2⟩
      have hok := hok.gr hb2
      have hgr := hgr.tr hb2
      have hg1 := hg1.tr hb2
      go_wp2_with fail
      refine (h1 _ hg1).mono ?_
      rintro e w3 ⟨rfl, hb3⟩
      have hok := hok.gr hb3
      have hgr := hgr.tr hb3
      have hg1 := hg1.tr hb3
      go_wp2
      have cA := HC.out _ hg1
      go_region_law (go_simp
                     first
                     | (go_at_call 31
                        refine (h3 _ (hok.drewN _)).mono ?_
                        rintro e w4 ⟨v4, rfl, o4, hb4⟩
                        have hg4 := below_drewN' hg1 hb4
                        have cB := HC.out _ hg4)
                     | (go_at_call 32
                        refine (equalTexts_same _ _ P _ (o4.reads (fun _ _ => rfl)) (H1.out.below hg4 (Nat.le_refl _))).mono ?_
                        rintro e w5 ⟨rfl, hb5⟩
                        have hg5 := hg4.tr hb5
                        have cC := HC.out _ hg5)
                     | (go_at_call 55
                        refine (h4 _ (hok.gr (Gr.tr (below_drewN' (Gr.rfl' _) hb4) hb5))).mono ?_
                        rintro e w6 ⟨rfl, hb6⟩
                        have hg6 := hg5.tr hb6
                        have cD := HC.out _ hg6))
      all_goals go_wp2
      all_goals go_ret
      all_goals exact ⟨rfl, Gr.tr hb1 hg6⟩
  · go_enter Tryd.func13, Tryd.ntmps13
    go_wp2
    go_ret
    exact ⟨rfl, Below.refl _ _⟩
end Go.Proofs.YtajbamcfkgkhpaaDoor
