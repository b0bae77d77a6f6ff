/-
  Walks over files and trees: valid trees of impl; the law that both packages tell the same of them.
-/
import Derived.Test.YtepljjaienpepaaDoorTreeGZ
import Derived.Test.YtepljjaienpepaaDoorZ5
namespace Imp
open Go Go.RowKit
theorem sameP_comm (f g : Fil) : sameP f g = sameP g f := by
  have hb : ∀ a b : List UInt8, (a == b) = (b == a) := fun a b => by
    by_cases h : a = b
    · rw [h]
    · rw [beq_eq_false_iff_ne.mpr h, beq_eq_false_iff_ne.mpr (fun e => h e.symm)]
  have hi : ∀ a b : Int, (a == b) = (b == a) := fun a b => by
    by_cases h : a = b
    · rw [h]
    · rw [beq_eq_false_iff_ne.mpr h, beq_eq_false_iff_ne.mpr (fun e => h e.symm)]
  have hc : ∀ a b : Bool, (a == b) = (b == a) := by decide
  unfold sameP
  rw [hi f.root, hb f.pkg.toList, hc f.init, hb f.name.toList]
end Imp
namespace Go.Proofs.YtepljjaienpepaaDoor
open Go Go.RowKit Imp
set_option linter.unusedVariables false
set_option linter.unusedSimpArgs false

set_option maxHeartbeats 1600000 in
theorem iValidTree_any {lo hi : Nat} (v : Value) (L : List FR) (w : World) (hok : OkW w) (hv0 : FlR w lo hi v L) (hhi : hi ≤ w.heap.size) (hsm : ∀ r ∈ L, SmF r) :
    Calls Tryd.prog 22 #[.agg #[v]] w fun e w' => e = .returned (.bool (okTree (L.map (·.1)))) ∧ Gr w w' := by
  obtain ⟨hv, hbod⟩ := hv0
  obtain ⟨a, c, rfl, h1, h2, h3⟩ := hv
  unfold maxLen at h2
  obtain ⟨R, hR⟩ : ∃ R, R = okTree (L.map (·.1)) := ⟨_, rfl⟩
  rw [← hR]
  rw [okTree, List.length_map] at hR
  have HR := Lib.hid hR
  have HB := Lib.hid hbod
  have HM := Lib.hid hsm
  have H3 := Lib.hid h3
  clear hR hbod hsm h3
  go_enter Tryd.func22, Tryd.ntmps22
  go_wp2
  go_loopw [10] (fun i wr => ∃ k : Nat, k ≤ L.length ∧ i = .int .i64 k ∧ (List.range k).all (goodAt (L.map (·.1))) = true ∧ Gr (w.alloc (.cells #[.slice a L.length c] 25)) wr) (fun i _ => L.length - (intOf i).toNat)
  case atStart => exact ⟨0, Nat.zero_le _, rfl, by simp, Gr.rfl' _⟩
  case round =>
    obtain ⟨k, hk, rfl, hall, hgr⟩ := hrel
    have H := Lib.hid hall
    clear hall
    have hgs := hgr.size
    simp at hgs
    have t0 := hgr.cell (p := ⟨w.heap.size, 0, none⟩) (by simp)
    have hgw : Gr w wr := Gr.tr (gr_al w _) hgr
    by_cases hlt : k < L.length
    · obtain ⟨b, o, rfl, hbb, hc⟩ := H3.out k hlt
      obtain ⟨x, hx⟩ : ∃ x, x = L[k] := ⟨_, rfl⟩
      obtain ⟨c0, c1, c2, c3, c4, c5⟩ := cells_fil (w := wr) (b := b) (o := o) (k := k) (x := x) (fun j u hu => (hgw.cell (p := ⟨b, o + k * 6 + j, none⟩) (Nat.lt_of_lt_of_le hbb.2 hhi)).trans (hc j u (by rw [← hx]; exact hu)))
      have hbx := HB.out _ (List.getElem_mem hlt)
      have hmx := HM.out _ (List.getElem_mem hlt)
      rw [← hx] at hbx hmx
      obtain ⟨xa, xc, hx2, _, _⟩ := SlR.form hbx
      have hvf : ∀ W, Gr w W → Calls Tryd.prog 33 #[.agg #[.int .i64 x.1.root, .string x.1.pkg, .string x.1.name, .bool x.1.init, .int .i64 x.1.stamp, .slice xa x.1.body.length xc]] W fun e w' => e = .returned (.bool (okFil x.1)) ∧ Gr W w' := by
        intro W h
        have := ifileOk_any x W (hok.gr h) (SlR.below hbx h hhi) (Nat.le_trans hhi h.size) hmx.1 hmx.2.1 hmx.2.2
        unfold vF at this
        rwa [hx2] at this
      rw [hx2] at c5
      have hga := goodAt_map hlt
      rw [← hx] at hga
      obtain ⟨F, hF⟩ : ∃ F, F = okFil x.1 := ⟨_, rfl⟩
      rw [← hF] at hga hvf
      have hX := heap_alloc_new wr (.cells #[.int .i64 x.1.root, .string x.1.pkg, .string x.1.name, .bool x.1.init, .int .i64 x.1.stamp, .slice xa x.1.body.length xc] 55)
      have hgX := gr_al wr (.cells #[.int .i64 x.1.root, .string x.1.pkg, .string x.1.name, .bool x.1.init, .int .i64 x.1.stamp, .slice xa x.1.body.length xc] 55)
      have HGA := Lib.hid hga
      have HVF := Lib.hid hvf
      have HX := Lib.hid hX
      have hki : (k : Int) < (L.length : Int) := by omega
      have hki2 : (k : Int) ≤ (L.length : Int) := by omega
      have hkc : k ≤ c := by omega
      have hlt' : k < (L.map (·.1)).length := by rw [List.length_map]; exact hlt
      clear hc hx hbx hmx hvf hga hF hX
      have HX2 := Lib.hid hx2
      clear hx2
      cases F
      · go_wp2_with fail
        refine (HVF.out _ (hgw.tr hgX)).mono ?_
        rintro e w5 ⟨rfl, hb5⟩
        go_wp2
        go_ret
        exact ⟨ret_bool (by rw [HR.out, ← List.length_map (f := fun r : FR => r.1), range_all_bad hlt' (by rw [HGA.out]; rfl)]; rfl), (hgw.tr hgX).tr hb5⟩
      · go_wp2_with fail
        refine (HVF.out _ (hgw.tr hgX)).mono ?_
        rintro e w5 ⟨rfl, hb5⟩
        have hg5 := (hgr.tr hgX).tr hb5
        have t5 := hg5.cell (p := ⟨w.heap.size, 0, none⟩) (by simp)
        clear t0 c0 c1 c2 c3 c4 c5
        go_wp2
        go_loopw [23] (fun i ws => ∃ j : Nat, j ≤ k ∧ i = .int .i64 j ∧ (L.take j).any (fun r : FR => sameP r.1 x.1) = false ∧ Gr w5 ws) (fun i _ => k - (intOf i).toNat)
        case atStart => exact ⟨0, Nat.zero_le _, rfl, by simp, Gr.rfl' _⟩
        case round =>
          obtain ⟨j, hj, rfl, hany, hgs5⟩ := hrel
          have HN := Lib.hid hany
          clear hany
          have hgw5 : Gr w _ := ((hgw.tr hgX).tr hb5).tr hgs5
          by_cases hjl : j < k
          · have hjlt : j < L.length := by omega
            obtain ⟨b', o', e', hbb', hc'⟩ := H3.out j hjlt
            injection e' with e'
            injection e' with e1 e2
            subst e1; subst e2
            obtain ⟨y, hy⟩ : ∃ y, y = L[j] := ⟨_, rfl⟩
            obtain ⟨c0, c1, c2, c3, c4, c5⟩ := cells_fil (w := _) (b := b) (o := o) (k := j) (x := y) (fun q u hu => (hgw5.cell (p := ⟨b, o + j * 6 + q, none⟩) (Nat.lt_of_lt_of_le hbb'.2 hhi)).trans (hc' q u (by rw [← hy]; exact hu)))
            have hja : (j : Int) < (k : Int) := by omega
            have hby := HB.out _ (List.getElem_mem hjlt)
            rw [← hy] at hby
            obtain ⟨ya, yc, hy2, _, _⟩ := SlR.form hby
            have hsm : ∀ W, Calls Tryd.prog 34 #[.agg #[.int .i64 x.1.root, .string x.1.pkg, .string x.1.name, .bool x.1.init, .int .i64 x.1.stamp, .slice xa x.1.body.length xc], .agg #[.int .i64 y.1.root, .string y.1.pkg, .string y.1.name, .bool y.1.init, .int .i64 y.1.stamp, .slice ya y.1.body.length yc]] W fun e w' => e = .returned (.bool (sameP x.1 y.1)) ∧ Gr W w' := by
              intro W
              have := isame_any x y W
              unfold vF at this
              rwa [HX2.out, hy2] at this
            rw [hy2] at c5
            have hgY := fun o => cells6 HX.out ((hb5.tr hgs5).tr (gr_al _ o))
            obtain ⟨d0, d1, d2, d3, d4, d5⟩ := hgY (.cells #[.int .i64 y.1.root, .string y.1.pkg, .string y.1.name, .bool y.1.init, .int .i64 y.1.stamp, .slice ya y.1.body.length yc] 55)
            obtain ⟨S, hS⟩ : ∃ S, S = sameP x.1 y.1 := ⟨_, rfl⟩
            rw [← hS] at hsm
            have HS := Lib.hid hS
            have HY := Lib.hid hy
            have HSM := Lib.hid hsm
            clear hc' hy hS hsm hgY hy2 hby
            cases S
            · go_wp2_with fail
              refine (HSM.out _).mono ?_
              rintro e w7 ⟨rfl, hb7⟩
              go_wp2
              go_roundw
              case rel => exact ⟨j + 1, by omega, by go_num, by rw [any_take_succ _ _ _ hjlt, HN.out, ← HY.out, sameP_comm, ← HS.out]; rfl, (hgs5.tr (gr_al _ _)).tr hb7⟩
              case measure => simp [intOf]; omega
            · go_wp2_with fail
              refine (HSM.out _).mono ?_
              rintro e w7 ⟨rfl, hb7⟩
              go_wp2
              go_ret
              refine ⟨ret_bool ?_, (hgw5.tr (gr_al _ _)).tr hb7⟩
              have hyes : (L.take k).any (fun r : FR => sameP r.1 x.1) = true := by
                rw [List.any_eq_true]
                refine ⟨L[j], ?_, by rw [← HY.out, sameP_comm]; exact HS.out.symm⟩
                rw [List.mem_take_iff_getElem]
                exact ⟨j, by omega, rfl⟩
              rw [HR.out, ← List.length_map (f := fun r : FR => r.1), range_all_bad hlt' (by rw [HGA.out, hyes]; rfl)]; rfl
          · have ejk : j = k := by omega
            subst ejk
            go_wp2
            go_roundw
            case rel => exact ⟨j + 1, by omega, by go_num, by rw [range_all_succ, H.out, HGA.out, HN.out]; rfl, hg5.tr hgs5⟩
            case measure => simp [intOf]; omega
    · have hall : (List.range L.length).all (goodAt (L.map (·.1))) = true := by have := H.out; rwa [show k = L.length by omega] at this
      have hfin : R = decide ((L.length : Int) ≤ 12) := by rw [HR.out, hall, Bool.true_and]
      have HF := Lib.hid hfin
      clear hall hfin
      go_wp2
      go_ret
      exact ⟨ret_bool (by rw [HF.out]), hgw⟩
end Go.Proofs.YtepljjaienpepaaDoor

/-
  Plain law on valid trees: what stays valid when a file goes, and when a file gets another stamp and body.
-/
namespace Imp
open Go Go.RowKit
theorem okTree_iff (T : List Fil) : okTree T = true ↔ (∀ f ∈ T, okFil f = true) ∧ T.Pairwise (fun a b => sameP a b = false) ∧ T.length ≤ 12 := by
  unfold okTree
  rw [Bool.and_eq_true, List.all_eq_true, decide_eq_true_eq]
  constructor
  · rintro ⟨h1, h2⟩
    refine ⟨fun f hf => ?_, ?_, by omega⟩
    · obtain ⟨i, hi, rfl⟩ := List.getElem_of_mem hf
      have := h1 i (List.mem_range.2 hi)
      unfold goodAt at this
      rw [List.getElem?_eq_getElem hi] at this
      simp only [Bool.and_eq_true] at this
      exact this.1
    · rw [List.pairwise_iff_getElem]
      intro i j hi hj hij
      have := h1 j (List.mem_range.2 hj)
      unfold goodAt at this
      rw [List.getElem?_eq_getElem hj] at this
      simp only [Bool.and_eq_true, Bool.not_eq_true', List.any_eq_false] at this
      have q := this.2 T[i] (by rw [List.mem_take_iff_getElem]; exact ⟨i, by omega, rfl⟩)
      simpa using q
  · rintro ⟨h1, h2, h3⟩
    refine ⟨fun i hi => ?_, by omega⟩
    have hi := List.mem_range.1 hi
    unfold goodAt
    rw [List.getElem?_eq_getElem hi]
    simp only [Bool.and_eq_true, Bool.not_eq_true', List.any_eq_false]
    refine ⟨h1 _ (List.getElem_mem hi), fun g hg => ?_⟩
    rw [List.mem_take_iff_getElem] at hg
    obtain ⟨j, hj, rfl⟩ := hg
    rw [List.pairwise_iff_getElem] at h2
    have := h2 j i (by omega) hi (by omega)
    simp [this]
theorem okTree_sub {T S : List Fil} (h : okTree T = true) (hs : S.Sublist T) : okTree S = true := by
  rw [okTree_iff] at h ⊢
  exact ⟨fun f hf => h.1 f (hs.subset hf), h.2.1.sublist hs, Nat.le_trans hs.length_le h.2.2⟩
theorem sub_without' {α : Type} (L : List α) (i : Nat) : (L.take i ++ L.drop (i + 1)).Sublist L := by
  have h : L = L.take i ++ L.drop i := (List.take_append_drop i L).symm
  conv => rhs; rw [h]
  refine List.Sublist.append (List.Sublist.refl _) ?_
  rw [← List.drop_drop]
  exact List.drop_sublist 1 _
/-- A file with another stamp and another body. -/
def editF (f : Fil) (st : Int) (b : List Stm) : Fil := ⟨f.root, f.pkg, f.name, f.init, st, b⟩
theorem okFil_edit {f : Fil} (h : okFil f = true) (st : Int) (b : List Stm) : okFil (editF f st b) = ((decide (0 ≤ st) && decide (st ≤ 99)) && okBody b) := by
  unfold okFil at h ⊢
  simp only [Bool.and_eq_true] at h
  obtain ⟨⟨⟨⟨h1, h2⟩, _⟩, _⟩, h5⟩ := h
  unfold editF
  simp only []
  rw [h2, h5, h1.1, h1.2]
  simp
theorem sameP_edit (f g : Fil) (st : Int) (b : List Stm) : sameP (editF f st b) g = sameP f g ∧ sameP g (editF f st b) = sameP g f := ⟨rfl, rfl⟩
theorem okTree_edit {A B : List Fil} {f : Fil} (h : okTree (A ++ f :: B) = true) (st : Int) (b : List Stm) : okTree (A ++ editF f st b :: B) = ((decide (0 ≤ st) && decide (st ≤ 99)) && okBody b) := by
  have hf := ((okTree_iff _).1 h).1 f (by simp)
  rw [← okFil_edit hf st b]
  cases hk : okFil (editF f st b)
  · cases ht : okTree (A ++ editF f st b :: B)
    · rfl
    · have := ((okTree_iff _).1 ht).1 (editF f st b) (by simp)
      rw [this] at hk; cases hk
  · rw [okTree_iff] at h ⊢
    obtain ⟨h1, h2, h3⟩ := h
    refine ⟨fun g hg => ?_, ?_, by simpa using h3⟩
    · rw [List.mem_append, List.mem_cons] at hg
      rcases hg with hg | rfl | hg
      · exact h1 g (by simp [hg])
      · exact hk
      · exact h1 g (by simp [hg])
    · rw [List.pairwise_append, List.pairwise_cons] at h2 ⊢
      refine ⟨h2.1, ⟨fun g hg => h2.2.1.1 g hg, h2.2.1.2⟩, fun a ha g hg => ?_⟩
      rw [List.mem_cons] at hg
      rcases hg with rfl | hg
      · exact h2.2.2 a ha f (by simp)
      · exact h2.2.2 a ha g (by simp [hg])
end Imp
