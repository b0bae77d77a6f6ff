/-
  Walks on names, further: names above, the package in common.
-/
import Derived.Test.YtomndnlpogikdabDoorNamesE
namespace Imp
open Go
def abv (P : List (List UInt8)) (k : Nat) : List (List UInt8) := (List.range k).map fun i => jn (P.take (i + 1))
theorem abv_length (P : List (List UInt8)) (k : Nat) : (abv P k).length = k := by simp [abv]
theorem abv_succ (P : List (List UInt8)) (k : Nat) : abv P (k + 1) = abv P k ++ [jn (P.take (k + 1))] := by simp [abv, List.range_succ]
theorem abv_eq {l : List UInt8} : abv (spl l) (spl l).length = aboveP l := rfl
theorem jn_small {P : List (List UInt8)} (h3 : P.length ≤ 3) (hp : ∀ p ∈ P, vPart p = true) : (jn P).length ≤ 11 := by
  by_cases h : P = []
  · subst h; simp [jn]
  · exact vName_length (vName_jn h h3 hp)
theorem filter_false {α : Type} {f : α → Bool} {l : List α} (h : ∀ x ∈ l, f x = false) : l.filter f = [] := by
  rw [List.filter_eq_nil_iff]; intro a ha; rw [h a ha]; simp
theorem getLastD_snoc {α : Type} (l : List α) (x d : α) : (l ++ [x]).getLastD d = x := by simp
/-- The last of a list that a test takes: what a walk from the end finds. -/
theorem last_found {f : List UInt8 → Bool} {A : List (List UInt8)} {k : Nat} (hk : k < A.length) (h : (A.drop (k + 1)).filter f = []) (hf : f A[k] = true) : (A.filter f).getLastD [] = A[k] := by
  conv => lhs; rw [← List.take_append_drop k A, List.drop_eq_getElem_cons hk, List.filter_append, List.filter_cons, if_pos hf, h]
  exact getLastD_snoc _ _ _
theorem last_step {f : List UInt8 → Bool} {A : List (List UInt8)} {k : Nat} (hk : k < A.length) (h : (A.drop (k + 1)).filter f = []) (hf : f A[k] = false) : (A.drop k).filter f = [] := by
  rw [List.drop_eq_getElem_cons hk, List.filter_cons, hf, h]; rfl
theorem last_next {f : List UInt8 → Bool} {A : List (List UInt8)} {k : Nat} (hk : k < A.length) : ((A.take (k + 1)).filter f).getLastD [] = if f A[k] then A[k] else ((A.take k).filter f).getLastD [] := by
  rw [List.take_succ_eq_append_getElem hk, List.filter_append, List.filter_cons]
  split
  · exact getLastD_snoc _ _ _
  · simp
theorem fUnder_name {b n : List UInt8} (hb : vName b = true) (hn : vName n = true) : fUnder b n = underP b n := by
  have : vPkg n = true := by unfold vPkg; rw [hn, Bool.or_true]
  rw [fUnder, hb, this]; rfl
end Imp
namespace Go.Proofs.YtomndnlpogikdabDoor
open Go Go.RowKit Imp
set_option linter.unusedVariables false

theorem hid_mk {α : Prop} (h : α) : Hid α := h

theorem sabove_any (s : ByteArray) (w : World) (hn : vName (bs s) = true) :
    Calls Tryd.prog 86 #[.string s] w fun e w' => ∃ v, e = .returned v ∧ Own w' w.heap.size 9 1 eL v (aboveP (bs s)) ∧ Gr w w' := by
  have hsz : s.size ≤ 11 := by have := vName_length hn; rw [bs_length] at this; exact this
  obtain ⟨h3, hpp⟩ := vName_parts hn
  obtain ⟨P, hP⟩ : ∃ P, P = spl (bs s) := ⟨_, rfl⟩
  have hA : aboveP (bs s) = abv P P.length := by rw [hP]; rfl
  rw [hA]
  have hsp := splitAt_s s w (by omega)
  rw [← hP] at hsp h3 hpp
  have hsm : ∀ k, (jn (P.take k)).length ≤ 11 := fun k => jn_small (by rw [List.length_take]; omega) (fun p hm => hpp p (List.mem_of_mem_take hm))
  have HSM := Lib.hid hsm
  have HSP := Lib.hid hsp
  clear hP hA hsp hsm hpp
  go_enter Tryd.func86, Tryd.ntmps86
  go_wp2_with fail
  refine HSP.out.mono ?_
  rintro e w1 ⟨v, rfl, hown, hb1⟩
  have hr := hown.reads (fun _ _ => rfl)
  obtain ⟨a, c, rfl, h1, h2⟩ := hr.form
  have hw1 := hb1.size
  go_wp2
  go_loopw [4, 5] (fun o i wr => ∃ k : Nat, k ≤ P.length ∧ i = .int .i64 (k + 1 : Nat) ∧ Own wr w.heap.size 9 1 eL o (abv P k) ∧ Gr w wr ∧ Same w.heap.size w1.heap.size w1 wr ∧ w1.heap.size ≤ wr.heap.size ∧ (∀ b, o.ownBlock = some b → w1.heap.size ≤ b)) (fun _ i _ => P.length + 2 - (intOf i).toNat)
  case atStart => exact ⟨0, Nat.zero_le _, rfl, Own.empty w1 w.heap.size _ _ _ hw1, hb1.alloc hw1 _, Same.alloc _ _ (Nat.le_refl _), by simp, by intro b hb; simp [Value.ownBlock] at hb; omega⟩
  case round =>
    obtain ⟨k, hk, rfl, hown2, hgr, hsame, hsz2, hob⟩ := hrel
    by_cases hlt : k < P.length
    · have ht := (hr.keep hsame).take (k + 1) (by omega)
      have hkc : k + 1 ≤ c := by omega
      have hj := fun W h => sjoin_any (lo := w.heap.size) (hi := w1.heap.size) (.slice a (k + 1) c) (P.take (k + 1)) W h (by have := HSM.out (k + 1); omega)
      obtain ⟨x, hx⟩ : ∃ x, x = jn (P.take (k + 1)) := ⟨_, rfl⟩
      rw [← hx] at hj
      have HX := Lib.hid hx
      clear hx
      have hgs := hgr.size
      go_wp2_with (first
        | (go_at_call 91; refine (hj _ ht).mono ?_; rintro e w' ⟨rfl, rfl⟩)
        | (at_builtin
           refine wpList_app _ rfl (.tmp 15) (.tmp 20) ti_strs rfl rfl (hown2.alloc _) rfl (SlR.one wr wr.heap.size x 9 (Nat.le_refl _) rfl) (fun _ _ => rfl) (by simp [eL, Value.oneCell']) (by unfold maxLen; rw [abv_length]; simp; omega) (by rw [abv_length]; simp; omega) (by simp; omega) ?_
           intro v2 w2 hown3 hg2 hat2))
      go_roundw
      case rel =>
        refine ⟨k + 1, by omega, by go_num, by rw [abv_succ, ← HX.out]; exact hown3, (hgr.alloc hgs _).grown hg2 (by simp; omega) (fun b hb => (hown2.block b hb).1), ?_, ?_, ?_⟩
        · exact (hsame.trans (Same.alloc wr _ hsz2)).trans (Same.of_grown hg2 (by simp; omega) (fun b e => .inr (hob b e)))
        · have := hg2.size; simp at this; omega
        · intro b hb
          rcases hat2 with e | e
          · rw [e] at hb; exact hob b hb
          · rw [e] at hb; simp at hb; omega
      case measure => simp [intOf]; omega
    · go_wp2
      go_ret
      have hkl : k = P.length := by omega
      subst hkl
      exact ⟨_, rfl, hown2, hgr⟩
end Go.Proofs.YtomndnlpogikdabDoor
