/-
  Walks on names, further: names above, the package in common.
-/
import Derived.Test.YtipklobcfmcebaaDoorNamesE
namespace Imp
open Go
theorem join_jn : ∀ P : List (List UInt8), Lib.join P [46] = jn P
  | [] => rfl
  | [p] => Lib.join_one p [46]
  | p :: q :: r => by
    have ih := join_jn (q :: r)
    rw [jn_cons (by simp), ← ih, Lib.join_cons, Lib.join_cons]
    simp [Lib.joinTail]
def abv (P : List (List UInt8)) (k : Nat) : List (List UInt8) := (List.range k).map fun i => jn (P.take (i + 1))
theorem abv_length (P : List (List UInt8)) (k : Nat) : (abv P k).length = k := by simp [abv]
theorem abv_succ (P : List (List UInt8)) (k : Nat) : abv P (k + 1) = abv P k ++ [jn (P.take (k + 1))] := by simp [abv, List.range_succ]
theorem abv_eq {l : List UInt8} : abv (spl l) (spl l).length = aboveP l := rfl
theorem jn_small {P : List (List UInt8)} (h3 : P.length ≤ 3) (hp : ∀ p ∈ P, vPart p = true) : (jn P).length ≤ 11 := by
  by_cases h : P = []
  · subst h; simp [jn]
  · exact vName_length (vName_jn h h3 hp)
theorem filter_false {α : Type} {f : α → Bool} {l : List α} (h : ∀ x ∈ l, f x = false) : l.filter f = [] := by
  rw [List.filter_eq_nil_iff]; intro a ha; rw [h a ha]; simp
theorem getLastD_snoc {α : Type} (l : List α) (x d : α) : (l ++ [x]).getLastD d = x := by simp
/-- The last of a list that a test takes: what a walk from the end finds. -/
theorem last_found {f : List UInt8 → Bool} {A : List (List UInt8)} {k : Nat} (hk : k < A.length) (h : (A.drop (k + 1)).filter f = []) (hf : f A[k] = true) : (A.filter f).getLastD [] = A[k] := by
  conv => lhs; rw [← List.take_append_drop k A, List.drop_eq_getElem_cons hk, List.filter_append, List.filter_cons, if_pos hf, h]
  exact getLastD_snoc _ _ _
theorem last_step {f : List UInt8 → Bool} {A : List (List UInt8)} {k : Nat} (hk : k < A.length) (h : (A.drop (k + 1)).filter f = []) (hf : f A[k] = false) : (A.drop k).filter f = [] := by
  rw [List.drop_eq_getElem_cons hk, List.filter_cons, hf, h]; rfl
theorem last_next {f : List UInt8 → Bool} {A : List (List UInt8)} {k : Nat} (hk : k < A.length) : ((A.take (k + 1)).filter f).getLastD [] = if f A[k] then A[k] else ((A.take k).filter f).getLastD [] := by
  rw [List.take_succ_eq_append_getElem hk, List.filter_append, List.filter_cons]
  split
  · exact getLastD_snoc _ _ _
  · simp
theorem fUnder_name {b n : List UInt8} (hb : vName b = true) (hn : vName n = true) : fUnder b n = underP b n := by
  have : vPkg n = true := by unfold vPkg; rw [hn, Bool.or_true]
  rw [fUnder, hb, this]; rfl
end Imp
namespace Go.Proofs.YtipklobcfmcebaaDoor
open Go Go.RowKit Imp
set_option linter.unusedVariables false

theorem hid_mk {α : Prop} (h : α) : Hid α := h

theorem sabove_any (s : ByteArray) (w : World) (hn : vName (bs s) = true) :
    Calls Tryd.prog 63 #[.string s] w fun e w' => ∃ v, e = .returned v ∧ Own w' w.heap.size 9 1 eL v (aboveP (bs s)) ∧ Gr w w' := by
  have hsz : s.size ≤ 11 := by have := vName_length hn; rw [bs_length] at this; exact this
  obtain ⟨h3, hpp⟩ := vName_parts hn
  obtain ⟨P, hP⟩ : ∃ P, P = spl (bs s) := ⟨_, rfl⟩
  have hA : aboveP (bs s) = abv P P.length := by rw [hP]; rfl
  rw [hA]
  have hsp := splitAt_s s w (by omega)
  rw [← hP] at hsp h3 hpp
  have hsm : ∀ k, (jn (P.take k)).length ≤ 11 := fun k => jn_small (by rw [List.length_take]; omega) (fun p hm => hpp p (List.mem_of_mem_take hm))
  have HSM := Lib.hid hsm
  have HSP := Lib.hid hsp
  clear hP hA hsp hsm hpp
  go_enter Tryd.func63, Tryd.ntmps63
  go_wp2_with fail
  refine HSP.out.mono ?_
  rintro e w1 ⟨v, rfl, hown, hb1⟩
  have hr := hown.reads (fun _ _ => rfl)
  obtain ⟨a, c, rfl, h1, h2⟩ := hr.form
  have hw1 := hb1.size
  go_wp2
  go_loopw [4, 5] (fun o i wr => ∃ k : Nat, k ≤ P.length ∧ i = .int .i64 (k + 1 : Nat) ∧ Own wr w.heap.size 9 1 eL o (abv P k) ∧ Gr w wr ∧ Same w.heap.size w1.heap.size w1 wr ∧ w1.heap.size ≤ wr.heap.size ∧ (∀ b, o.ownBlock = some b → w1.heap.size ≤ b)) (fun _ i _ => P.length + 2 - (intOf i).toNat)
  case atStart => exact ⟨0, Nat.zero_le _, rfl, Own.empty w1 w.heap.size _ _ _ hw1, hb1.alloc hw1 _, Same.alloc _ _ (Nat.le_refl _), by simp, by intro b hb; simp [Value.ownBlock] at hb; omega⟩
  case round =>
    obtain ⟨k, hk, rfl, hown2, hgr, hsame, hsz2, hob⟩ := hrel
    by_cases hlt : k < P.length
    · have ht := (hr.keep hsame).take (k + 1) (by omega)
      have hkc : k + 1 ≤ c := by omega
      have hj := fun W h => sjoin_any (lo := w.heap.size) (hi := w1.heap.size) (.slice a (k + 1) c) (P.take (k + 1)) W h (by have := HSM.out (k + 1); omega)
      obtain ⟨x, hx⟩ : ∃ x, x = jn (P.take (k + 1)) := ⟨_, rfl⟩
      rw [← hx] at hj
      have HX := Lib.hid hx
      clear hx
      have hgs := hgr.size
      go_wp2_with (first
        | (go_at_call 117; refine (hj _ ht).mono ?_; rintro e w' ⟨rfl, rfl⟩)
        | (at_builtin
           refine wpList_app _ rfl (.tmp 15) (.tmp 20) ti_strs rfl rfl (hown2.alloc _) rfl (SlR.one wr wr.heap.size x 9 (Nat.le_refl _) rfl) (fun _ _ => rfl) (by simp [eL, Value.oneCell']) (by unfold maxLen; rw [abv_length]; simp; omega) (by rw [abv_length]; simp; omega) (by simp; omega) ?_
           intro v2 w2 hown3 hg2 hat2))
      go_roundw
      case rel =>
        refine ⟨k + 1, by omega, by go_num, by rw [abv_succ, ← HX.out]; exact hown3, (hgr.alloc hgs _).grown hg2 (by simp; omega) (fun b hb => (hown2.block b hb).1), ?_, ?_, ?_⟩
        · exact (hsame.trans (Same.alloc wr _ hsz2)).trans (Same.of_grown hg2 (by simp; omega) (fun b e => .inr (hob b e)))
        · have := hg2.size; simp at this; omega
        · intro b hb
          rcases hat2 with e | e
          · rw [e] at hb; exact hob b hb
          · rw [e] at hb; simp at hb; omega
      case measure => simp [intOf]; omega
    · go_wp2
      go_ret
      have hkl : k = P.length := by omega
      subst hkl
      exact ⟨_, rfl, hown2, hgr⟩
theorem sNamesAbove_any (s : ByteArray) (w : World) (hs : s.size ≤ 16777216) :
    Calls Tryd.prog 23 #[.string s] w fun e w' => ∃ v, e = .returned v ∧ Own w' w.heap.size 9 1 eL v (fAbove (bs s)) ∧ Gr w w' := by
  by_cases hv : vName (bs s) = true
  · have e : fAbove (bs s) = aboveP (bs s) := by rw [fAbove, hv]; rfl
    rw [e]
    go_enter Tryd.func23, Tryd.ntmps23
    go_wp2_with fail
    refine (svalidName_any _ _ hs).mono ?_
    rintro e w1 ⟨rfl, hb1⟩
    go_wp2_with fail
    refine (sabove_any _ _ hv).mono ?_
    rintro e w2 ⟨v, rfl, ho, hb2⟩
    go_wp2
    go_ret
    exact ⟨v, rfl, ho.mono hb1.size, hb1.tr hb2⟩
  · have hv' : vName (bs s) = false := (Bool.not_eq_true _).mp hv
    have e : fAbove (bs s) = [] := by rw [fAbove, hv']; rfl
    rw [e]
    go_enter Tryd.func23, Tryd.ntmps23
    go_wp2_with fail
    refine (svalidName_any _ _ hs).mono ?_
    rintro e w1 ⟨rfl, hb1⟩
    go_wp2
    go_ret
    exact ⟨_, rfl, Own.nil _ _ _ _ _, hb1⟩
theorem ijoin_any {lo hi : Nat} (v : Value) (P : List (List UInt8)) (w : World) (hv : SlR w lo hi 1 eL v P) (hhi : hi ≤ w.heap.size) (hjl : (jn P).length ≤ 33554432) (hpl : P.length ≤ 33554432) :
    Calls Tryd.prog 68 #[v, .string ⟨#[46]⟩] w fun e w' => e = .returned (.string (mk (jn P))) ∧ Gr w w' := by
  obtain ⟨a, c, rfl, h1, h2, h3⟩ := hv
  have hmap : (P.map mk).map (·.data.toList) = P := by rw [List.map_map]; conv => rhs; rw [← List.map_id P]
                                                       exact List.map_congr_left (fun x _ => rfl)
  have hj : Lib.join ((P.map mk).map (·.data.toList)) (ByteArray.mk #[46]).data.toList = jn P := by rw [hmap]; exact join_jn P
  cases hP : P with
  | nil =>
    subst hP
    exact (Tryd.strings_Join_none a c ⟨#[46]⟩ w).mono fun e w' ⟨he, hw⟩ => ⟨he, hw ▸ Gr.rfl' _⟩
  | cons x r =>
    rw [← hP]
    obtain ⟨b, o, rfl, hb, _⟩ := h3 0 (by rw [hP]; simp)
    have := Tryd.strings_Join b o c (P.map mk) ⟨#[46]⟩ w (fun j y hy => by
      rw [List.getElem?_map] at hy
      have hj : j < P.length := by
        rcases Nat.lt_or_ge j P.length with h | h
        · exact h
        · rw [List.getElem?_eq_none h] at hy; cases hy
      rw [List.getElem?_eq_getElem hj] at hy
      injection hy with hy
      subst hy
      obtain ⟨b', o', e, _, hc⟩ := h3 j hj
      injection e with e
      injection e with e1 e2
      subst e1; subst e2
      have := hc 0 _ rfl
      simpa using this) (by omega) (by rw [List.length_map]; omega) (by rw [List.length_map]; exact h1) (by rw [hj]; omega)
    rw [hj, List.length_map] at this
    exact this
theorem iNamesAbove_any (s : ByteArray) (w : World) (hs : s.size ≤ 16777216) (hok : OkW w) :
    Calls Tryd.prog 19 #[.string s] w fun e w' => ∃ v, e = .returned v ∧ Own w' w.heap.size 9 1 eL v (fAbove (bs s)) ∧ Gr w w' := by
  have hsp := fun W h => iPartsOf_any s W hs h
  have hprop : (fParts (bs s)).length ≤ 3 ∧ (∀ p ∈ fParts (bs s), vPart p = true) ∧ fAbove (bs s) = abv (fParts (bs s)) (fParts (bs s)).length := by
    by_cases hv : vName (bs s) = true
    · have e : fParts (bs s) = spl (bs s) := by rw [fParts, hv]; rfl
      rw [e, fAbove, hv]
      exact ⟨(vName_parts hv).1, (vName_parts hv).2, rfl⟩
    · have hv' : vName (bs s) = false := (Bool.not_eq_true _).mp hv
      rw [fParts, fAbove, hv']
      exact ⟨by simp, by simp, rfl⟩
  obtain ⟨h3, hpp, hA⟩ := hprop
  rw [hA]
  generalize fParts (bs s) = P at hsp h3 hpp
  have hsm : ∀ k, (jn (P.take k)).length ≤ 11 := fun k => jn_small (by rw [List.length_take]; omega) (fun p hm => hpp p (List.mem_of_mem_take hm))
  have HSM := Lib.hid hsm
  have HSP := Lib.hid hsp
  clear hA hsp hsm hpp
  go_enter Tryd.func19, Tryd.ntmps19
  go_wp2_with fail
  refine (HSP.out _ (hok.gr ((Below.refl _ w).alloc (Nat.le_refl _) _))).mono ?_
  rintro e w1 ⟨v, rfl, hown, hb1⟩
  have hb0 : Gr w w1 := Gr.tr ((Below.refl _ w).alloc (Nat.le_refl _) _) hb1
  have hown0 : Own w1 w.heap.size 9 1 eL (.slice (some ⟨w.heap.size, 0, none⟩) 0 0) ([] : List (List UInt8)) := (Own.empty w w.heap.size 9 1 eL (Nat.le_refl _)).keep (fun b hb => by simp [Value.ownBlock] at hb; subst hb; exact hb1.block _ (by simp))
  obtain ⟨a0, c0, rfl, _, _⟩ := hown.form
  go_wp2
  go_loopw [3, 9] (fun o i wr => ∃ k : Nat, k ≤ P.length ∧ i = .int .i64 k ∧ Own wr w.heap.size 9 1 eL o (abv P k) ∧ Gr w wr) (fun _ i _ => P.length - (intOf i).toNat)
  case atStart => exact ⟨0, Nat.zero_le _, rfl, hown0, hb0⟩
  case round =>
    obtain ⟨k, hk, rfl, hown2, hgr⟩ := hrel
    by_cases hlt : k < P.length
    · have hgs := hgr.size
      have hokr := hok.gr hgr
      obtain ⟨x, hx⟩ : ∃ x, x = jn (P.take (k + 1)) := ⟨_, rfl⟩
      have HX := Lib.hid hx
      clear hx hown hown0
      have hwr : IntKind.i64.wrap ((k : Int) + 1) = (k : Int) + 1 := IntWalk.i64_in _ (by omega)
      have hn1 : ((k : Int) + 1).toNat = k + 1 := by omega
      have hk0 : 0 ≤ (k : Int) + 1 := by omega
      go_wp2_with fail
      refine (HSP.out _ hokr).mono ?_
      rintro e w2 ⟨v2, rfl, o2, hb2⟩
      have r2 := o2.reads (fun _ _ => rfl)
      obtain ⟨a2, c2, rfl, hc1, hc2⟩ := r2.form
      have ht := r2.take (k + 1) (by omega)
      have hkc : k + 1 ≤ c2 := by omega
      have hkc2 : (k : Int) + 1 ≤ (c2 : Int) := by omega
      have hj := ijoin_any (.slice a2 (k + 1) c2) (P.take (k + 1)) w2 ht (Nat.le_refl _) (by have := HSM.out (k + 1); omega) (by rw [List.length_take]; omega)
      rw [← HX.out] at hj
      go_wp2_with (first
        | (go_at_call 68; refine hj.mono ?_; rintro e w3 ⟨rfl, hb3⟩; have hgs3 := ((hgr.tr hb2).tr hb3).size; have hown4 : Own w3 w.heap.size 9 1 eL _ (abv P k) := hown2.keep (fun b hb => (hb2.tr hb3).block b (hown2.block b hb).2))
        | (at_builtin
           refine wpList_app _ rfl (.tmp 12) (.tmp 19) ti_strs rfl rfl (hown4.alloc _) rfl (SlR.one w3 w3.heap.size x 9 (Nat.le_refl _) rfl) (fun _ _ => rfl) (by simp [eL, Value.oneCell']) (by unfold maxLen; rw [abv_length]; simp; omega) (by rw [abv_length]; simp; omega) (by simp; omega) ?_
           intro v4 w4 hown3 hg4 hat4))
      go_roundw
      case rel =>
        exact ⟨k + 1, by omega, by go_num, by rw [abv_succ, ← HX.out]; exact hown3, (((hgr.tr hb2).tr hb3).alloc hgs3 _).grown hg4 (by simp; omega) (fun b hb => (hown4.block b hb).1)⟩
      case measure => simp [intOf]; omega
    · go_wp2
      go_ret
      have hkl : k = P.length := by omega
      subst hkl
      exact ⟨_, rfl, hown2, hgr⟩
end Go.Proofs.YtipklobcfmcebaaDoor
