/-
  Walks: marks written into a body and read of it.
-/
import Derived.Test.YtomndnlpogikdaaDoorTreeB
import Derived.Test.YtomndnlpogikdaaDoorMark
import Derived.Test.YtomndnlpogikdaaDoorHashI
import Derived.Deep.RegionHeld3
namespace Imp
open Go Go.RowKit
theorem grown_gr {w w' : World} {g : Option Nat} (h : Below w.heap.size w w') : w.grownBy w' g := ⟨h.os, h.tape, h.output, h.size, fun i hi _ => h.block i hi⟩
theorem own_rowK {α : Type} {enc : α → List Value} {K : Nat} {w : World} {base t : Nat} {v : Value} {A B : List α} {x : α} (hK : ∀ y, (enc y).length = K) (h : Own w base t K enc v (A ++ x :: B)) :
    ∃ b c, v = .slice (some ⟨b, 0, none⟩) (A ++ x :: B).length c ∧ base ≤ b ∧ b < w.heap.size ∧ (A ++ x :: B).length ≤ c ∧
      (∀ j u, (enc x)[j]? = some u → w.cell? ⟨b, A.length * K + j, none⟩ = some u) ∧ ∀ j, w.frozen? ⟨b, j, none⟩ = false := by
  obtain ⟨h1, h2⟩ := h
  rcases h2 with ⟨_, e⟩ | ⟨g, cap, cur, e, hb, hh, h3, h4, h5, h6⟩
  · simp at e
  · refine ⟨g, cap, e, hb, lt_of_block hh, h3, fun j u hu => ?_, fun j => frozen_of_row w g j _ _ hh⟩
    have hj : j < K := by rw [← hK x]; exact (List.getElem?_eq_some_iff.1 hu).1
    have hlt : A.length * K + j < (A ++ x :: B).length * K := by
      rw [List.length_append, List.length_cons, Nat.add_mul, Nat.add_mul]; omega
    have hA : (A.flatMap enc).length = A.length * K := flatMap_len _ (fun _ _ => hK _)
    rw [cell_of_row w g _ _ _ _ hh, ← Array.getElem?_toList, ← List.getElem?_take_of_lt hlt, h6, List.flatMap_append, List.getElem?_append_right (by omega), hA,
      show A.length * K + j - A.length * K = j by omega, List.flatMap_cons, List.getElem?_append_left (by rw [hK]; exact hj)]
    exact hu
theorem own_setK {α : Type} {enc : α → List Value} {K : Nat} {w : World} {base t b j : Nat} {v u : Value} {A B : List α} {x x' : α} (hK : ∀ y, (enc y).length = K) (h : Own w base t K enc v (A ++ x :: B)) (hv : v.ownBlock = some b) (hj : j < K) (hx : enc x' = (enc x).set j u) :
    Own (w.setCell ⟨b, A.length * K + j, none⟩ u) base t K enc v (A ++ x' :: B) := by
  obtain ⟨h1, h2⟩ := h
  rcases h2 with ⟨_, e⟩ | ⟨g, cap, cur, e, hb, hh, h3, h4, h5, h6⟩
  · simp at e
  · subst e
    injection hv with hv
    subst hv
    have hlen : (A ++ x' :: B).length = (A ++ x :: B).length := by simp
    have hA : (A.flatMap enc).length = A.length * K := flatMap_len _ (fun _ _ => hK _)
    refine ⟨flatMap_len _ (fun _ _ => hK _), .inr ⟨g, cap, cur.setIfInBounds (A.length * K + j) u, by rw [hlen], hb, heap_setCell_same w g _ cur t u hh, by rw [hlen]; exact h3, h4, by simpa using h5, ?_⟩⟩
    have h6' : cur.toList.take ((A ++ x :: B).length * K) = (A ++ x :: B).flatMap enc := h6
    rw [hlen, Array.toList_setIfInBounds, List.take_set, h6', List.flatMap_append, List.flatMap_append, List.flatMap_cons, List.flatMap_cons, hx, List.set_append_right _ _ (by omega), hA,
      show A.length * K + j - A.length * K = j by omega, List.set_append_left _ _ (by rw [hK]; exact hj)]
def stmK (k : Nat) : Stm := ⟨(k : Nat), mText (k + 1), ((k + 2 : Nat) : Int), mText (k + 3), ((k + 4 : Nat) : Int)⟩
def marksB (k n : Nat) : List Stm := (List.range n).map fun i => stmK (k + 5 * i)
theorem marksB_succ (k n : Nat) : marksB k (n + 1) = marksB k n ++ [stmK (k + 5 * n)] := by simp [marksB, List.range_succ]
theorem marksB_length (k n : Nat) : (marksB k n).length = n := by simp [marksB]
theorem marksB_get (k n i : Nat) (h : i < (marksB k n).length) : (marksB k n)[i] = stmK (k + 5 * i) := by simp [marksB]
end Imp
namespace Go.Proofs.YtomndnlpogikdaaDoor
open Go Go.RowKit Imp
set_option linter.unusedVariables false
set_option linter.unusedSimpArgs false
set_option maxHeartbeats 1600000 in
theorem markStmtS_any {base : Nat} (v : Value) (L : List Stm) (w : World) (k0 : Nat) (ho : Own w base 80 5 eSt v L) (h0 : 1 ≤ k0) (hk : k0 + 5 * L.length ≤ 42949670) :
    Calls Tryd.prog 26 #[v, .int .i64 k0] w fun e w' => e = .returned (.int .i64 ((k0 + 5 * L.length : Nat) : Int)) ∧ Own w' base 80 5 eSt v (marksB k0 L.length) ∧ w.grownBy w' v.ownBlock := by
  have ho0 := Lib.hid ho
  obtain ⟨a, c, rfl, hcc, hc2⟩ := ho.form
  clear ho
  go_enter Tryd.func26, Tryd.ntmps26
  go_wp2
  go_loopw [1, 5] (fun kk i wr => ∃ j K : Nat, j ≤ L.length ∧ i = .int .i64 j ∧ kk = .int .i64 K ∧ K = k0 + 5 * j ∧ Own wr base 80 5 eSt (.slice a L.length c) (marksB k0 j ++ L.drop j) ∧ w.grownBy wr (Value.ownBlock (.slice a L.length c))) (fun _ i _ => L.length - (intOf i).toNat)
  case atStart => exact ⟨0, k0, Nat.zero_le _, rfl, rfl, by omega, by simpa [marksB] using ho0.out, Go.World.grownBy.refl _ _⟩
  case round =>
    obtain ⟨j, K, hj, rfl, rfl, hK, hown, hgr⟩ := hrel
    have HK := Lib.hid hK
    by_cases hlt : j < L.length
    · have hd : L.drop j = L[j] :: L.drop (j + 1) := List.drop_eq_getElem_cons hlt
      rw [hd] at hown
      obtain ⟨x, hx⟩ : ∃ x, x = L[j] := ⟨_, rfl⟩
      rw [← hx] at hown
      obtain ⟨B, hB⟩ : ∃ B, B = L.drop (j + 1) := ⟨_, rfl⟩
      rw [← hB] at hown
      obtain ⟨A, hA⟩ : ∃ A, A = marksB k0 j := ⟨_, rfl⟩
      have hAl : A.length = j := by rw [hA]; exact marksB_length _ _
      rw [← hA] at hown
      obtain ⟨b, c', e, hbb, hbl, hc', hcell, hfr⟩ := own_rowK (K := 5) (enc := eSt) (fun _ => rfl) hown
      injection e with e1 e2 e3
      clear e2 e3
      subst e1
      obtain ⟨K1, hK1⟩ : ∃ K1 : Nat, K1 = K + 1 := ⟨_, rfl⟩
      obtain ⟨K2, hK2⟩ : ∃ K2 : Nat, K2 = K + 2 := ⟨_, rfl⟩
      obtain ⟨K3, hK3⟩ : ∃ K3 : Nat, K3 = K + 3 := ⟨_, rfl⟩
      obtain ⟨K4, hK4⟩ : ∃ K4 : Nat, K4 = K + 4 := ⟨_, rfl⟩
      obtain ⟨K5, hK5⟩ : ∃ K5 : Nat, K5 = K + 5 := ⟨_, rfl⟩
      have hw1 : IntKind.i64.wrap ((K : Int) + 1) = (K1 : Int) := by rw [IntWalk.i64_in _ (by omega)]; omega
      have hw2 : IntKind.i64.wrap ((K1 : Int) + 1) = (K2 : Int) := by rw [IntWalk.i64_in _ (by omega)]; omega
      have hw3 : IntKind.i64.wrap ((K2 : Int) + 1) = (K3 : Int) := by rw [IntWalk.i64_in _ (by omega)]; omega
      have hw4 : IntKind.i64.wrap ((K3 : Int) + 1) = (K4 : Int) := by rw [IntWalk.i64_in _ (by omega)]; omega
      have hw5 : IntKind.i64.wrap ((K4 : Int) + 1) = (K5 : Int) := by rw [IntWalk.i64_in _ (by omega)]; omega
      have m1 := fun W => markText_any K1 W (by omega) (by omega)
      have m3 := fun W => markText_any K3 W (by omega) (by omega)
      have hend : (⟨(K : Int), mText K1, (K2 : Int), mText K3, (K4 : Int)⟩ : Stm) = stmK (k0 + 5 * j) := by
        unfold stmK; rw [hK1, hK2, hK3, hK4, hK]
      have hK5' : K5 = k0 + 5 * (j + 1) := by omega
      generalize mText K1 = T1 at m1 hend
      generalize mText K3 = T3 at m3 hend
      have HE := Lib.hid hend
      have HK5 := Lib.hid hK5'
      have HA := Lib.hid hA
      have HB := Lib.hid hB
      have HAl := Lib.hid hAl
      have M1 := Lib.hid m1
      have M3 := Lib.hid m3
      clear hK1 hK2 hK3 hK4 hK5 hK5' hend hA hB hd hx hAl m1 m3 hK
      have c0 := hcell 0 _ rfl
      have f0 := hfr (j * 5)
      rw [HAl.out, Nat.add_zero] at c0
      have o1 := own_setK (K := 5) (enc := eSt) (j := 0) (u := .int .i64 (K : Int)) (x' := { x with kind := (K : Int) }) (fun _ => rfl) hown rfl (by decide) rfl
      rw [HAl.out, Nat.add_zero] at o1
      clear hcell hfr
      go_wp2_with fail
      refine (M1.out _).mono ?_
      rintro e w1 ⟨rfl, hb1⟩
      have hsz1 := hb1.size
      have o1' := Own.keep o1 (fun b hb => hb1.block b (o1.block b hb).2)
      obtain ⟨b', c1', e', _, hbl1, _, hcell1, hfr1⟩ := own_rowK (K := 5) (enc := eSt) (fun _ => rfl) o1'
      injection e' with e1 e2 e3
      clear e2 e3
      injection e1 with e1
      injection e1 with e1
      subst e1
      have c1 := hcell1 1 _ rfl
      have f1 := hfr1 (j * 5 + 1)
      rw [HAl.out] at c1
      have o2 := own_setK (K := 5) (enc := eSt) (j := 1) (u := .string T1) (x' := { x with kind := (K : Int), mod := T1 }) (fun _ => rfl) o1' rfl (by decide) rfl
      rw [HAl.out] at o2
      obtain ⟨b', c2', e', _, hbl2, _, hcell2, hfr2⟩ := own_rowK (K := 5) (enc := eSt) (fun _ => rfl) o2
      injection e' with e1 e2 e3
      clear e2 e3
      injection e1 with e1
      injection e1 with e1
      subst e1
      have c2 := hcell2 2 _ rfl
      have f2 := hfr2 (j * 5 + 2)
      rw [HAl.out] at c2
      have o3 := own_setK (K := 5) (enc := eSt) (j := 2) (u := .int .i64 (K2 : Int)) (x' := { x with kind := (K : Int), mod := T1, level := (K2 : Int) }) (fun _ => rfl) o2 rfl (by decide) rfl
      rw [HAl.out] at o3
      clear hcell1 hfr1 hcell2 hfr2 c0 f0
      go_wp2_with fail
      refine (M3.out _).mono ?_
      rintro e w2 ⟨rfl, hb2⟩
      have hsz2 := hb2.size
      have o3' := Own.keep o3 (fun b hb => hb2.block b (o3.block b hb).2)
      obtain ⟨b', c3', e', _, hbl3, _, hcell3, hfr3⟩ := own_rowK (K := 5) (enc := eSt) (fun _ => rfl) o3'
      injection e' with e1 e2 e3
      clear e2 e3
      injection e1 with e1
      injection e1 with e1
      subst e1
      have c3 := hcell3 3 _ rfl
      have f3 := hfr3 (j * 5 + 3)
      rw [HAl.out] at c3
      have o4 := own_setK (K := 5) (enc := eSt) (j := 3) (u := .string T3) (x' := { x with kind := (K : Int), mod := T1, level := (K2 : Int), name := T3 }) (fun _ => rfl) o3' rfl (by decide) rfl
      rw [HAl.out] at o4
      obtain ⟨b', c4', e', _, hbl4, _, hcell4, hfr4⟩ := own_rowK (K := 5) (enc := eSt) (fun _ => rfl) o4
      injection e' with e1 e2 e3
      clear e2 e3
      injection e1 with e1
      injection e1 with e1
      subst e1
      have c4 := hcell4 4 _ rfl
      have f4 := hfr4 (j * 5 + 4)
      rw [HAl.out] at c4
      have o5 := own_setK (K := 5) (enc := eSt) (j := 4) (u := .int .i64 (K4 : Int)) (x' := (⟨(K : Int), T1, (K2 : Int), T3, (K4 : Int)⟩ : Stm)) (fun _ => rfl) o4 rfl (by decide) rfl
      rw [HAl.out] at o5
      clear hcell3 hfr3 hcell4 hfr4 c1 f1 c2 f2
      have g1 := grown_tr hgr (grown_set wr b (j * 5) (.int .i64 (K : Int)))
      have g2 := grown_tr (grown_tr (grown_tr g1 (grown_gr hb1)) (grown_set w1 b (j * 5 + 1) (.string T1))) (grown_set _ b (j * 5 + 2) (.int .i64 (K2 : Int)))
      have g3 := grown_tr (grown_tr (grown_tr g2 (grown_gr hb2)) (grown_set w2 b (j * 5 + 3) (.string T3))) (grown_set _ b (j * 5 + 4) (.int .i64 (K4 : Int)))
      have O5 := Lib.hid o5
      have G3 := Lib.hid g3
      clear o1 o1' o2 o3 o3' o4 o5 g1 g2 g3 hgr hown
      go_wp2
      go_roundw
      case rel =>
        refine ⟨j + 1, K5, by omega, by go_num, rfl, HK5.out, ?_, G3.out⟩
        have := O5.out
        rw [HE.out, HA.out, HB.out] at this
        rw [marksB_succ, List.append_assoc]
        exact this
      case measure => simp [intOf]; omega
    · have hjl : j = L.length := by omega
      subst hjl
      have hKe := HK.out
      clear HK hK
      subst hKe
      go_wp2
      go_ret
      exact ⟨rfl, by simpa using hown, hgr⟩
set_option maxHeartbeats 1600000 in
theorem heldStmtS_any {lo hi : Nat} (v : Value) (w : World) (k0 n : Nat) (hv : SlR w lo hi 5 eSt v (marksB k0 n)) (hhi : hi ≤ w.heap.size) (h0 : 1 ≤ k0) (hk : k0 + 5 * n ≤ 42949670) :
    Calls Tryd.prog 81 #[v, .int .i64 k0] w fun e w' => e = .returned (.int .i64 ((k0 + 5 * n : Nat) : Int)) ∧ Gr w w' := by
  have hv0 := hv
  obtain ⟨a, c, rfl, h1, h2, h3⟩ := hv
  rw [marksB_length] at h1 ⊢
  unfold maxLen at h2
  go_enter Tryd.func81, Tryd.ntmps81
  go_wp2
  go_loopw [1, 5] (fun kk i wr => ∃ j K : Nat, j ≤ n ∧ i = .int .i64 j ∧ kk = .int .i64 K ∧ K = k0 + 5 * j ∧ Gr w wr) (fun _ i _ => n - (intOf i).toNat)
  case atStart => exact ⟨0, k0, Nat.zero_le _, rfl, rfl, by omega, Gr.rfl' _⟩
  case round =>
    obtain ⟨j, K, hj, rfl, rfl, hK, hgr⟩ := hrel
    have HK := Lib.hid hK
    by_cases hlt : j < n
    · obtain ⟨b, o, rfl, hbb, hc⟩ := h3 j (by rw [marksB_length]; exact hlt)
      rw [marksB_get] at hc
      obtain ⟨K1, hK1⟩ : ∃ K1 : Nat, K1 = K + 1 := ⟨_, rfl⟩
      obtain ⟨K2, hK2⟩ : ∃ K2 : Nat, K2 = K + 2 := ⟨_, rfl⟩
      obtain ⟨K3, hK3⟩ : ∃ K3 : Nat, K3 = K + 3 := ⟨_, rfl⟩
      obtain ⟨K4, hK4⟩ : ∃ K4 : Nat, K4 = K + 4 := ⟨_, rfl⟩
      obtain ⟨K5, hK5⟩ : ∃ K5 : Nat, K5 = K + 5 := ⟨_, rfl⟩
      have hw1 : IntKind.i64.wrap ((K : Int) + 1) = (K1 : Int) := by rw [IntWalk.i64_in _ (by omega)]; omega
      have hw2 : IntKind.i64.wrap ((K1 : Int) + 1) = (K2 : Int) := by rw [IntWalk.i64_in _ (by omega)]; omega
      have hw3 : IntKind.i64.wrap ((K2 : Int) + 1) = (K3 : Int) := by rw [IntWalk.i64_in _ (by omega)]; omega
      have hw4 : IntKind.i64.wrap ((K3 : Int) + 1) = (K4 : Int) := by rw [IntWalk.i64_in _ (by omega)]; omega
      have hw5 : IntKind.i64.wrap ((K4 : Int) + 1) = (K5 : Int) := by rw [IntWalk.i64_in _ (by omega)]; omega
      have m1 := fun W => markText_any K1 W (by omega) (by omega)
      have m3 := fun W => markText_any K3 W (by omega) (by omega)
      have hend : stmK (k0 + 5 * j) = (⟨(K : Int), mText K1, (K2 : Int), mText K3, (K4 : Int)⟩ : Stm) := by
        unfold stmK; rw [hK1, hK2, hK3, hK4, hK]
      rw [hend] at hc
      have hK5' : K5 = k0 + 5 * (j + 1) := by omega
      generalize mText K1 = T1 at m1 hc
      generalize mText K3 = T3 at m3 hc
      have hall : ∀ W, Gr w W → Gr w W ∧ W.cell? ⟨b, o + j * 5, none⟩ = some (.int .i64 (K : Int)) ∧ W.cell? ⟨b, o + j * 5 + 1, none⟩ = some (.string T1) ∧ W.cell? ⟨b, o + j * 5 + 2, none⟩ = some (.int .i64 (K2 : Int)) ∧ W.cell? ⟨b, o + j * 5 + 3, none⟩ = some (.string T3) ∧ W.cell? ⟨b, o + j * 5 + 4, none⟩ = some (.int .i64 (K4 : Int)) :=
        fun W h => ⟨h, (h.cell (p := ⟨b, o + j * 5, none⟩) (Nat.lt_of_lt_of_le hbb.2 hhi)).trans (hc 0 _ rfl), (h.cell (p := ⟨b, o + j * 5 + 1, none⟩) (Nat.lt_of_lt_of_le hbb.2 hhi)).trans (hc 1 _ rfl), (h.cell (p := ⟨b, o + j * 5 + 2, none⟩) (Nat.lt_of_lt_of_le hbb.2 hhi)).trans (hc 2 _ rfl), (h.cell (p := ⟨b, o + j * 5 + 3, none⟩) (Nat.lt_of_lt_of_le hbb.2 hhi)).trans (hc 3 _ rfl), (h.cell (p := ⟨b, o + j * 5 + 4, none⟩) (Nat.lt_of_lt_of_le hbb.2 hhi)).trans (hc 4 _ rfl)⟩
      have q0 : (T1.toList != T1.toList) = false := by simp
      have q1 : (T3.toList != T3.toList) = false := by simp
      have q2 : ((K : Int) != (K : Int)) = false := by simp
      have q3 : ((K2 : Int) != (K2 : Int)) = false := by simp
      have q4 : ((K4 : Int) != (K4 : Int)) = false := by simp
      have HALL := Lib.hid hall
      have HK5 := Lib.hid hK5'
      have M1 := Lib.hid m1
      have M3 := Lib.hid m3
      obtain ⟨c0, c1, c2, c3, c4⟩ := (hall _ hgr).2
      clear hK1 hK2 hK3 hK4 hK5 hK5' hend hc m1 m3 hK hall h3
      go_wp2
      refine wp_region_held_drew (S := (fun W => Gr w W ∧ W.cell? ⟨b, o + j * 5, none⟩ = some (.int .i64 (K : Int)) ∧ W.cell? ⟨b, o + j * 5 + 1, none⟩ = some (.string T1) ∧ W.cell? ⟨b, o + j * 5 + 2, none⟩ = some (.int .i64 (K2 : Int)) ∧ W.cell? ⟨b, o + j * 5 + 3, none⟩ = some (.string T3) ∧ W.cell? ⟨b, o + j * 5 + 4, none⟩ = some (.int .i64 (K4 : Int)))) (by kernel_rfl) (HALL.out _ (below_drewN hgr 1)) (fun hS0 => ?_)
      refine wpAnyH_take (i := 0) (v := ?_) rfl (by kernel_rfl) (by kernel_rfl) (by kernel_rfl) (fun _ _ _ h => h) (Or.inl ⟨by rfl, ?_⟩) hS0 ?_
      rotate_left
      · (intro W hSw; (try dsimp only at hSw); go_simp; try (with_reducible rfl))
      try simp only [Act.put, List.getElem_toArray, List.getElem_cons_succ, List.getElem_cons_zero, List.setIfInBounds_toArray, List.set_cons_zero, List.set_cons_succ]
      refine wpAnyH_take (i := 1) (v := ?_) rfl (by kernel_rfl) (by kernel_rfl) (by kernel_rfl) (fun _ _ _ h => h) (Or.inl ⟨by rfl, ?_⟩) hS0 ?_
      rotate_left
      · (intro W hSw; (try dsimp only at hSw); go_simp; try (with_reducible rfl))
      try simp only [Act.put, List.getElem_toArray, List.getElem_cons_succ, List.getElem_cons_zero, List.setIfInBounds_toArray, List.set_cons_zero, List.set_cons_succ]
      refine wpAnyH_take (i := 2) (v := ?_) rfl (by kernel_rfl) (by kernel_rfl) (by kernel_rfl) (fun _ _ _ h => h) (Or.inl ⟨by rfl, ?_⟩) hS0 ?_
      rotate_left
      · (intro W hSw; (try dsimp only at hSw); go_simp; try (with_reducible rfl))
      try simp only [Act.put, List.getElem_toArray, List.getElem_cons_succ, List.getElem_cons_zero, List.setIfInBounds_toArray, List.set_cons_zero, List.set_cons_succ]
      refine wpAnyH_take (i := 3) (v := ?_) rfl (by kernel_rfl) (by kernel_rfl) (by kernel_rfl) (fun _ _ _ h => h) (Or.inl ⟨by rfl, ?_⟩) hS0 ?_
      rotate_left
      · (intro W hSw; (try dsimp only at hSw); go_simp; try (with_reducible rfl))
      try simp only [Act.put, List.getElem_toArray, List.getElem_cons_succ, List.getElem_cons_zero, List.setIfInBounds_toArray, List.set_cons_zero, List.set_cons_succ]
      refine wpAnyH_take (i := 4) (v := ?_) rfl (by kernel_rfl) (by kernel_rfl) (by kernel_rfl) (fun _ _ _ h => h) (Or.inl ⟨by rfl, ?_⟩) hS0 ?_
      rotate_left
      · (intro W hSw; (try dsimp only at hSw); go_simp; try (with_reducible rfl))
      try simp only [Act.put, List.getElem_toArray, List.getElem_cons_succ, List.getElem_cons_zero, List.setIfInBounds_toArray, List.set_cons_zero, List.set_cons_succ]
      refine wpAnyH_take (i := 5) (v := ?_) rfl (by kernel_rfl) (by kernel_rfl) (by kernel_rfl) (fun _ _ _ h => h) (Or.inl ⟨by rfl, ?_⟩) hS0 ?_
      rotate_left
      · (intro W hSw; (try dsimp only at hSw); go_simp; try (with_reducible rfl))
      try simp only [Act.put, List.getElem_toArray, List.getElem_cons_succ, List.getElem_cons_zero, List.setIfInBounds_toArray, List.set_cons_zero, List.set_cons_succ]
      refine wpAnyH_ready (rs := [6]) (by kernel_rfl) (by simp) ?_
      refine AllReadyH.cons rfl (fun K hK => ?_) AllReadyH.nil
      go_simp
      refine (M1.out _).mono ?_
      rintro e w5 ⟨rfl, hb5⟩
      try go_wp2_with fail
      refine hK.out _ _ (HALL.out _ (hS0.1.tr hb5)) (fun hS1 => ?_)
      clear hK K
      try simp only [Act.put, List.getElem_toArray, List.getElem_cons_succ, List.getElem_cons_zero, List.setIfInBounds_toArray, List.set_cons_zero, List.set_cons_succ]
      refine wpAnyH_take (i := 7) (v := ?_) rfl (by kernel_rfl) (by kernel_rfl) (by kernel_rfl) (fun _ _ _ h => h) (Or.inl ⟨by rfl, ?_⟩) hS1 ?_
      rotate_left
      · (intro W hSw; (try dsimp only at hSw); go_simp; try (with_reducible rfl))
      try simp only [Act.put, List.getElem_toArray, List.getElem_cons_succ, List.getElem_cons_zero, List.setIfInBounds_toArray, List.set_cons_zero, List.set_cons_succ]
      refine wpAnyH_done (by kernel_rfl) ?_ _
      obtain ⟨d0, d1, d2, d3, d4⟩ := hS1.2
      go_wp2
      refine wp_region_held_drew (S := (fun W => Gr w W ∧ W.cell? ⟨b, o + j * 5, none⟩ = some (.int .i64 (K : Int)) ∧ W.cell? ⟨b, o + j * 5 + 1, none⟩ = some (.string T1) ∧ W.cell? ⟨b, o + j * 5 + 2, none⟩ = some (.int .i64 (K2 : Int)) ∧ W.cell? ⟨b, o + j * 5 + 3, none⟩ = some (.string T3) ∧ W.cell? ⟨b, o + j * 5 + 4, none⟩ = some (.int .i64 (K4 : Int)))) (by kernel_rfl) (HALL.out _ (below_drewN hS1.1 1)) (fun hS2 => ?_)
      refine wpAnyH_take (i := 0) (v := ?_) rfl (by kernel_rfl) (by kernel_rfl) (by kernel_rfl) (fun _ _ _ h => h) (Or.inl ⟨by rfl, ?_⟩) hS2 ?_
      rotate_left
      · (intro W hSw; (try dsimp only at hSw); go_simp; try (with_reducible rfl))
      try simp only [Act.put, List.getElem_toArray, List.getElem_cons_succ, List.getElem_cons_zero, List.setIfInBounds_toArray, List.set_cons_zero, List.set_cons_succ]
      refine wpAnyH_take (i := 1) (v := ?_) rfl (by kernel_rfl) (by kernel_rfl) (by kernel_rfl) (fun _ _ _ h => h) (Or.inl ⟨by rfl, ?_⟩) hS2 ?_
      rotate_left
      · (intro W hSw; (try dsimp only at hSw); go_simp; try (with_reducible rfl))
      try simp only [Act.put, List.getElem_toArray, List.getElem_cons_succ, List.getElem_cons_zero, List.setIfInBounds_toArray, List.set_cons_zero, List.set_cons_succ]
      refine wpAnyH_take (i := 2) (v := ?_) rfl (by kernel_rfl) (by kernel_rfl) (by kernel_rfl) (fun _ _ _ h => h) (Or.inl ⟨by rfl, ?_⟩) hS2 ?_
      rotate_left
      · (intro W hSw; (try dsimp only at hSw); go_simp; try (with_reducible rfl))
      try simp only [Act.put, List.getElem_toArray, List.getElem_cons_succ, List.getElem_cons_zero, List.setIfInBounds_toArray, List.set_cons_zero, List.set_cons_succ]
      refine wpAnyH_take (i := 3) (v := ?_) rfl (by kernel_rfl) (by kernel_rfl) (by kernel_rfl) (fun _ _ _ h => h) (Or.inl ⟨by rfl, ?_⟩) hS2 ?_
      rotate_left
      · (intro W hSw; (try dsimp only at hSw); go_simp; try (with_reducible rfl))
      try simp only [Act.put, List.getElem_toArray, List.getElem_cons_succ, List.getElem_cons_zero, List.setIfInBounds_toArray, List.set_cons_zero, List.set_cons_succ]
      refine wpAnyH_take (i := 4) (v := ?_) rfl (by kernel_rfl) (by kernel_rfl) (by kernel_rfl) (fun _ _ _ h => h) (Or.inl ⟨by rfl, ?_⟩) hS2 ?_
      rotate_left
      · (intro W hSw; (try dsimp only at hSw); go_simp; try (with_reducible rfl))
      try simp only [Act.put, List.getElem_toArray, List.getElem_cons_succ, List.getElem_cons_zero, List.setIfInBounds_toArray, List.set_cons_zero, List.set_cons_succ]
      refine wpAnyH_take (i := 5) (v := ?_) rfl (by kernel_rfl) (by kernel_rfl) (by kernel_rfl) (fun _ _ _ h => h) (Or.inl ⟨by rfl, ?_⟩) hS2 ?_
      rotate_left
      · (intro W hSw; (try dsimp only at hSw); go_simp; try (with_reducible rfl))
      try simp only [Act.put, List.getElem_toArray, List.getElem_cons_succ, List.getElem_cons_zero, List.setIfInBounds_toArray, List.set_cons_zero, List.set_cons_succ]
      refine wpAnyH_ready (rs := [6]) (by kernel_rfl) (by simp) ?_
      refine AllReadyH.cons rfl (fun K hK => ?_) AllReadyH.nil
      go_simp
      refine (M3.out _).mono ?_
      rintro e w6 ⟨rfl, hb6⟩
      try go_wp2_with fail
      refine hK.out _ _ (HALL.out _ (hS2.1.tr hb6)) (fun hS3 => ?_)
      clear hK K
      try simp only [Act.put, List.getElem_toArray, List.getElem_cons_succ, List.getElem_cons_zero, List.setIfInBounds_toArray, List.set_cons_zero, List.set_cons_succ]
      refine wpAnyH_take (i := 7) (v := ?_) rfl (by kernel_rfl) (by kernel_rfl) (by kernel_rfl) (fun _ _ _ h => h) (Or.inl ⟨by rfl, ?_⟩) hS3 ?_
      rotate_left
      · (intro W hSw; (try dsimp only at hSw); go_simp; try (with_reducible rfl))
      try simp only [Act.put, List.getElem_toArray, List.getElem_cons_succ, List.getElem_cons_zero, List.setIfInBounds_toArray, List.set_cons_zero, List.set_cons_succ]
      refine wpAnyH_done (by kernel_rfl) ?_ _
      obtain ⟨g0, g1, g2, g3, g4⟩ := hS3.2
      go_wp2
      go_roundw
      case rel => exact ⟨j + 1, K5, by omega, by go_num, rfl, HK5.out, hS3.1⟩
      case measure => simp [intOf]; omega
    · have hjl : j = n := by omega
      subst hjl
      have hKe := HK.out
      clear HK hK
      subst hKe
      go_wp2
      go_ret
      exact ⟨rfl, hgr⟩
end Go.Proofs.YtomndnlpogikdaaDoor
