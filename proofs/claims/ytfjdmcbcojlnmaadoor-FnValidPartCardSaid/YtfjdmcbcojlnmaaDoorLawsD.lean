/-
  Walks of the laws whose answer is a slice of strings.
-/
import Derived.Test.YtfjdmcbcojlnmaaDoorMark
namespace Go.Proofs.YtfjdmcbcojlnmaaDoor
open Go Go.RowKit Imp
set_option linter.unusedVariables false

theorem fParts_length (l : List UInt8) : (fParts l).length ≤ 3 := by
  unfold fParts
  split
  · rename_i h
    unfold vName at h
    rw [Bool.and_eq_true] at h
    exact of_decide_eq_true h.2
  · simp

theorem slr_grown {α : Type} {w w' : World} {lo hi k : Nat} {enc : α → List Value} {v : Value} {L : List α} (h : SlR w lo hi k enc v L) {g : Option Nat} (hg : w.grownBy w' g) (hh : hi ≤ w.heap.size) (hb : ∀ b, g = some b → hi ≤ b) : SlR w' lo hi k enc v L :=
  h.keep (Same.of_grown hg hh (fun b e => .inr (hb b e)))

theorem walk_FnExactPartsOf (w : World) (hok : OkW w) (s : ByteArray) (hs : s.size ≤ maxLen) :
    Calls Tryd.prog 10 #[.string s] w fun e w' => e = .returned (.bool true) ∧ Below w.heap.size w w' := by
  unfold maxLen at hs
  by_cases hbig : s.size ≤ 1048576
  · have hl3 := fParts_length (bs s)
    have h1 := fun w => sPartsOf_any s w (by omega)
    have h2 := fun w h => iPartsOf_any s w (by omega) h
    generalize fParts (bs s) = P at h1 h2 hl3
    have hlen : (P.map mk).length ≤ 3 := by rw [List.length_map]; exact hl3
    obtain ⟨Q, hQ⟩ : ∃ Q, Q = P.map mk := ⟨_, rfl⟩
    rw [← hQ] at hlen
    have HQ := Lib.hid hQ
    obtain ⟨N, hN, hN0⟩ : ∃ N : Int, N = ((1 + Q.length : Nat) : Int) ∧ 0 ≤ N := ⟨_, rfl, by omega⟩
    have hm := fun (b : Nat) v W (h : Own W b 9 1 eS v Q) => markStringS_any v Q 1 W h (Nat.le_refl _) (by omega)
    have hh := fun (lo hi : Nat) v W (h : SlR W lo hi 1 eS v (marksS 1 Q.length)) h' => heldStringS_any v Q.length 1 W h h' (Nat.le_refl _) (by omega)
    rw [← hN] at hm hh
    have hlt0 : decide (N < 0) = false := decide_eq_false (by omega)
    have hne0 : (N != N) = false := by simp
    clear hN hQ
    go_enter Tryd.func10, Tryd.ntmps10
    go_wp2_with fail
    refine (h1 _).mono ?_
    rintro e w1 ⟨v0, rfl, o0, hb1⟩
    have o0 := own_eS o0
    rw [← HQ.out] at o0
    have r0 := o0.reads (fun _ _ => rfl)
    go_wp2_with fail
    refine (h2 _ (hok.gr hb1)).mono ?_
    rintro e w2 ⟨v1, rfl, o1, hb2⟩
    have o1 := own_eS o1
    rw [← HQ.out] at o1
    have r0 := r0.below hb2 (Nat.le_refl _)
    have s2 := hb2.size
    go_wp2_with fail
    refine (eqStringS_any _ _ Q Q _ (o1.reads (fun _ _ => rfl)) r0).mono ?_
    rintro e w2' ⟨rfl, n, rfl⟩
    have r0 := r0.drewN n
    go_wp2_with fail
    refine (hm _ _ _ (o1.drewN n)).mono ?_
    rintro e w3 ⟨rfl, o3, hg3⟩
    have ob := o1.block
    have r3 := o3.reads (fun _ _ => rfl)
    have r0 := slr_grown r0 hg3 s2 (fun b e => (ob b e).1)
    have hb3 : Gr w w3 := Below.grown (below_drewN (hb1.tr hb2) n) hg3 (hb1.tr hb2).size (fun b e => Nat.le_trans hb1.size (ob b e).1)
    have s3 : w2.heap.size ≤ w3.heap.size := hg3.size
    go_wp2_with fail
    refine (hh _ _ _ _ r3 (Nat.le_refl _)).mono ?_
    rintro e w4 ⟨rfl, hb4⟩
    have s4 := hb4.size
    have r0 := r0.below hb4 (by omega)
    go_wp2_with fail
    refine (h2 _ (hok.gr (hb3.tr hb4))).mono ?_
    rintro e w5 ⟨v5, rfl, o5, hb5⟩
    have o5 := own_eS o5
    rw [← HQ.out] at o5
    have s5 := hb5.size
    have r0 := r0.below hb5 (by omega)
    have r3 := r3.below (hb4.tr hb5) (Nat.le_refl _)
    go_wp2_with fail
    refine (eqStringS_any _ _ Q Q _ (o5.reads (fun _ _ => rfl)) r0).mono ?_
    rintro e w6 ⟨rfl, n6, rfl⟩
    go_wp2_with fail
    refine (hh _ _ _ _ (r3.drewN n6) (by show w3.heap.size ≤ w5.heap.size; omega)).mono ?_
    rintro e w7 ⟨rfl, hb7⟩
    go_wp2
    go_ret
    exact ⟨rfl, Gr.tr (below_drewN ((hb3.tr hb4).tr hb5) n6) hb7⟩
  · go_enter Tryd.func10, Tryd.ntmps10
    go_wp2
    go_ret
    exact ⟨rfl, Below.refl _ _⟩
end Go.Proofs.YtfjdmcbcojlnmaaDoor
