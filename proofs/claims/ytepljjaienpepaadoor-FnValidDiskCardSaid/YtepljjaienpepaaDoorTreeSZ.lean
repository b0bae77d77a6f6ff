/-
  Walks: a file taken out of a tree: slices.Delete, RemoveFile of both packages. Printed by trees.py.
-/
import Derived.Test.YtepljjaienpepaaDoorTreeAZ
import Derived.Test.YtepljjaienpepaaDoorZ6
import Derived.Test.YtepljjaienpepaaDoorTreeKZ
import Derived.Laws.IdiomCopy
namespace Imp
open Go Go.RowKit
theorem SlR.cellsAt {w : World} {lo hi k m c : Nat} {α : Type} {enc : α → List Value} {ad : Addr} {M : List α} (h : SlR w lo hi k enc (.slice (some ad) m c) M) (hk : ∀ x ∈ M, (enc x).length = k) (hz4 : 0 < k) :
    m = M.length ∧ ∀ j u, (M.flatMap enc)[j]? = some u → w.cell? (ad.add j) = some u := by
  obtain ⟨a', c', e', s1, s2, s3⟩ := h
  injection e' with e1 e2 e3
  subst e1; subst e2; subst e3
  have hnl : (M.flatMap enc).length = M.length * k := flatMap_len M hk
  refine ⟨rfl, fun j u hu => ?_⟩
  have hj : j < M.length * k := by rw [← hnl]; exact (List.getElem?_eq_some_iff.1 hu).1
  have hi : j / k < M.length := Nat.div_lt_of_lt_mul (by rw [Nat.mul_comm]; exact hj)
  have hmod : j % k < k := Nat.mod_lt _ hz4
  obtain ⟨b, o, h, _, hc⟩ := s3 (j / k) hi
  injection h with h
  subst h
  have hjk : j / k * k + j % k = j := by rw [Nat.mul_comm]; exact Nat.div_add_mod j k
  have hel : (enc M[j / k])[j % k]? = some u := by
    have hlt : j % k < (enc M[j / k]).length := by rw [hk _ (List.getElem_mem hi)]; exact hmod
    have h2 := flatMap_get hk hi (List.getElem?_eq_getElem hlt)
    rw [hjk, hu] at h2
    rw [List.getElem?_eq_getElem hlt]; exact h2.symm
  have h3 := hc (j % k) u hel
  rw [Nat.add_assoc, hjk] at h3
  unfold Addr.add
  split
  · rename_i h0; subst h0; simpa using h3
  · exact h3
section
variable {P : Program} {α : Type} {enc : α → List Value}
/-- An append that has room: the source may lie in the row itself. -/
theorem run_app_in (w : World) {t ty e : TypeId} {k bytes base : Nat} (ti : TI P t e k bytes) {g n cap q : Nat} {ua : Option Addr} {L M : List α} (hua : ua = some ⟨g, 0, none⟩) (hown : Own w base e k enc (.slice ua n cap) L) {lo hi : Nat} {A : Option Addr} {m c : Nat}
    (hA : A.isSome = true) (hsrc : SlR w lo hi k enc (.slice A m c) M) (hk : ∀ x ∈ M, (enc x).length = k) (h1 : ∀ x ∈ M, ∀ u ∈ enc x, u.oneCell' = true) (hq : q = L.length + M.length) (hroom : q ≤ cap) :
    ∃ w', (Builtin.append_ #[t, t] ty #[.slice ua n cap, .slice A m c]).run P w = .ok (.slice ua q cap) w' ∧ Own w' base e k enc (.slice ua q cap) (L ++ M) ∧ w.grownBy w' (some g) := by
  obtain ⟨ht, i, z, hi0, hz0, hz1, hz2, hz3, hz4⟩ := ti
  subst hua
  obtain ⟨ad, rfl⟩ := Option.isSome_iff_exists.1 hA
  obtain ⟨hm, hc⟩ := hsrc.cellsAt hk hz4
  obtain ⟨a2, c2, hf, _, _⟩ := hown.form
  injection hf with _ hf2 _
  subst hf2; subst hm; subst hq
  obtain ⟨w', h2, h3, h4⟩ := run_append_fits (P := P) w base t ty e i k ht hi0 hz1 g L.length cap (L.flatMap enc) hown ad M.length c (M.flatMap enc) (flatMap_len M hk) hc
    (fun u hu => by obtain ⟨x, hx, hu⟩ := List.mem_flatMap.1 hu; exact h1 x hx u hu) hroom
  refine ⟨w', h2, ?_, h4⟩
  unfold Own
  rw [List.length_append, List.flatMap_append]
  exact h3
theorem step_app_in (w : World) {ops : Array Oper} {o : Oper} {a : Act} {K : Act → World → Prop} {Q : Exit → Act → World → Prop} {E : Prop} (hgd : o.guard = none) (s x : Operand) {t e : TypeId} {k bytes base : Nat} (ti : TI P t e k bytes)
    (ho : o.op = .call { callee := .builtin .append, args := #[s, x], argTypes := #[t, t] }) {g n cap q : Nat} {ua : Option Addr} {L M : List α} (hs : a.eval s = .slice ua n cap) (hua : ua = some ⟨g, 0, none⟩) (hown : Own w base e k enc (.slice ua n cap) L) {lo hi : Nat} {A : Option Addr} {m c : Nat}
    (hx : a.eval x = .slice A m c) (hA : A.isSome = true) (hsrc : SlR w lo hi k enc (.slice A m c) M) (hk : ∀ x ∈ M, (enc x).length = k) (h1 : ∀ x ∈ M, ∀ u ∈ enc x, u.oneCell' = true) (hq : q = L.length + M.length) (hroom : q ≤ cap)
    (h : ∀ w', Own w' base e k enc (.slice ua q cap) (L ++ M) → w.grownBy w' (some g) → K (a.put o.dst (.slice ua q cap)) w') :
    if Region.wanted o (yielded ops a.tmps) = true then Oper.wp P o a w K Q else E := by
  have hw : Region.wanted o (yielded ops a.tmps) = true := by simp [Region.wanted, hgd]
  rw [if_pos hw]
  obtain ⟨w', hrun, h2, h3⟩ := run_app_in (ty := o.type) w ti hua hown hA hsrc hk h1 hq hroom
  unfold Oper.wp execOp
  simp only [ho, resolve, invoke, builtin, Sem.run_bind, Sem.run_pure, Result.andThen_ok, List.map_toArray, List.map_cons, List.map_nil, hs, hx, hrun]
  exact h w' h2 h3
end
theorem setCells_row (g : Nat) {e n : Nat} : ∀ (vs : List Value) (o : Nat) (w : World) (cur : Array Value), n ≤ o → w.heap[g]? = some (.cells cur e (0, 0)) →
    ∃ cur', (w.setCells g o vs).heap[g]? = some (.cells cur' e (0, 0)) ∧ cur'.size = cur.size ∧ cur'.toList.take n = cur.toList.take n ∧ w.grownBy (w.setCells g o vs) (some g)
  | [], o, w, cur, _, h => ⟨cur, h, rfl, rfl, World.grownBy.refl w _⟩
  | v :: r, o, w, cur, hn, h => by
    obtain ⟨cur', h1, h2, h3, h4⟩ := setCells_row g (n := n) r (o + 1) (w.setCell ⟨g, o, none⟩ v) (cur.setIfInBounds o v) (by omega) (heap_setCell_same w g o cur e v h)
    refine ⟨cur', h1, by rw [h2]; simp, ?_, grown_tr (grown_set w g o v) h4⟩
    rw [h3, Array.toList_setIfInBounds, List.take_set_of_le hn]
section
variable {P : Program} {α : Type} {enc : α → List Value}
/-- The cells behind a row's own elements are cleared. -/
theorem run_clear_own (w : World) {t ty e : TypeId} {k bytes base : Nat} (ti : TI P t e k bytes) (hz' : ∀ i z, P.info? e = some i → i.zero = some z → ∀ u ∈ z.cells.toList, u.oneCell' = true) {g n cap q : Nat} {ua A : Option Addr} {L : List α} (hua : ua = some ⟨g, 0, none⟩)
    (hown : Own w base e k enc (.slice ua q cap) L) (hqn : q < n) (hncap : n ≤ cap) (hA : A = some (Addr.add ⟨g, 0, none⟩ (q * k))) :
    ∃ w', (Builtin.clear_ #[t] ty #[.slice A (n - q) (cap - q)]).run P w = .ok (.tuple #[]) w' ∧ Own w' base e k enc (.slice ua q cap) L ∧ w.grownBy w' (some g) := by
  obtain ⟨ht, i, z, hi0, hz0, hz1, hz2, hz3, hz4⟩ := ti
  subst hua
  have hzz := hz' i z hi0 hz0
  rcases hown with ⟨hl, h0 | ⟨g', cap', cur, hv, hb, hg, hnc, hcm, hcs, htk⟩⟩
  · cases h0.1
  · injection hv with e1 e2 e3
    injection e1 with e1
    injection e1 with e1
    subst e1; subst e3; subst e2
    have hA' : A = some ⟨g, L.length * k, none⟩ := by
      rw [hA]; unfold Addr.add; split
      · rename_i h0; rw [h0]
      · simp
    subst hA'
    obtain ⟨zs, hzs⟩ : ∃ zs, zs = (Builtin.zeroCells z.cells (n - L.length)).toList := ⟨_, rfl⟩
    have hzl : zs.length = (n - L.length) * k := by rw [hzs]; simp [Builtin.zeroCells, hz3]
    have hle : L.length * k + (n - L.length) * k ≤ cap * k := by rw [← Nat.add_mul]; exact Nat.mul_le_mul_right _ (by omega)
    have hone : ∀ v ∈ zs, v.oneCell' = true := by
      intro v hv
      rw [hzs] at hv
      simp only [Builtin.zeroCells, Array.toList_map, List.mem_map] at hv
      obtain ⟨j, _, rfl⟩ := hv
      have hlt : j % z.cells.size < z.cells.size := Nat.mod_lt _ (by omega)
      rw [getElem!_pos z.cells _ hlt]
      exact hzz _ (by rw [Array.mem_toList_iff]; exact Array.getElem_mem hlt)
    have hst := run_storeCells_cells (P := P) g (L.length * k) zs 0 w (fun j hj => by
      rw [cell_of_row w g _ _ _ _ hg, Array.getElem?_eq_getElem (by omega)]; rfl) (fun j hj => by simp [World.frozen?, hg]) hone
    obtain ⟨cur', r1, r2, r3, r4⟩ := setCells_row g (n := L.length * k) zs (L.length * k + 0) w cur (by omega) hg
    refine ⟨_, ?_, ⟨hl, .inr ⟨g, cap, cur', rfl, hb, r1, hnc, hcm, by omega, by rw [r3]; exact htk⟩⟩, r4⟩
    obtain ⟨m, hm⟩ : ∃ m, n - L.length = m + 1 := ⟨n - L.length - 1, by omega⟩
    rw [hm] at hzs ⊢
    simp [Builtin.clear_, run_underlying ht, zeroValue, typeInfo, hi0, hz0, ← hzs, hst]
end
section
variable {w w' : World} {base tO K tI kI : Nat} {α β : Type} {enc : α × Value → List Value} {encI : β → List Value} {inner : α → List β} {v v' : Value} {M M' : List (α × Value)}
theorem OwnN.subrows (h : OwnN w base tO K enc tI kI encI inner v M) (hs : M'.Sublist M) (ho : Own w' base tO K enc v' M') (hk : ∀ r ∈ M, ∀ b, r.2.ownBlock = some b → w'.heap[b]? = w.heap[b]? ∧ v'.ownBlock ≠ some b) : OwnN w' base tO K enc tI kI encI inner v' M' :=
  ⟨ho, fun r hr => (h.2.1 r (hs.subset hr)).keep (fun b hb => (hk r (hs.subset hr) b hb).1), h.2.2.1.sublist hs, fun r hr b hb => (hk r (hs.subset hr) b hb).2⟩
end
theorem ownsN_sub {α : Type} {v v' : Value} {M M' : List (α × Value)} (hs : M'.Sublist M) (hv : v'.ownBlock = v.ownBlock) {b : Nat} (h : ownsN v' M' b) : ownsN v M b := by
  rcases h with h | ⟨r, hr, h⟩
  · exact Or.inl (hv ▸ h)
  · exact Or.inr ⟨r, hs.subset hr, h⟩
end Imp
namespace Go.Proofs.YtepljjaienpepaaDoor
open Go Go.RowKit Imp
set_option linter.unusedVariables false
set_option linter.unusedSimpArgs false
theorem one_of_own {w : World} {base e k : Nat} {α : Type} {enc : α → List Value} {v : Value} {L : List α} (h : Own w base e k enc v L) : v.oneCell' = true := by
  obtain ⟨a, c, rfl, _, _⟩ := h.form
  rfl

set_option maxHeartbeats 3200000 in
theorem sRemoveFile_any {lo hi : Nat} (tv : Value) (L : List FR) (i : Int) (w : World) (hok : OkW w) (hv : FlR w lo hi tv L) (hhi : hi ≤ w.heap.size)
    (hl : L.length ≤ 1000000) (hn : ∀ r ∈ L, r.1.body.length ≤ 1048576) (hsm : ∀ r ∈ L, SmF r) :
    Calls Tryd.prog 51 #[.agg #[tv], .int .i64 i] w (DTb w (okTree (L.map (·.1)) && (decide (0 ≤ i) && decide (i ≤ (L.length : Int) - 1))) ((L.map (·.1)).take i.toNat ++ (L.map (·.1)).drop (i.toNat + 1))) := by
  obtain ⟨ta, tc, rfl, htc, htc2⟩ := hv.1.form
  have hg2 := gr_al2 w (.cells #[.slice ta L.length tc] 25) (.cells #[.slice none 0 0] 25)
  have hz1 : ((w.alloc (.cells #[.slice ta L.length tc] 25)).alloc (.cells #[.slice none 0 0] 25)).heap[w.heap.size + 1]? = some (.cells #[.slice none 0 0] 25) := heap_alloc2_new w _ _
  have hz0 : ((w.alloc (.cells #[.slice ta L.length tc] 25)).alloc (.cells #[.slice none 0 0] 25)).heap[w.heap.size]? = some (.cells #[.slice ta L.length tc] 25) := (Below.heap_alloc (w.alloc (.cells #[.slice ta L.length tc] 25)) (.cells #[.slice none 0 0] 25) w.heap.size (by simp)).trans (heap_alloc_new w (.cells #[.slice ta L.length tc] 25))
  have hct := fun W (h : Gr w W) => scopyTree_own (.slice ta L.length tc) L W (hv.below h hhi) (Nat.le_trans hhi h.size) (by omega) hn
  have hvt := fun W (h : Gr w W) => svalidTree_any (.slice ta L.length tc) L W (hok.gr h) (hv.below h hhi) (Nat.le_trans hhi h.size) hsm
  have hrg := fun W => inRange_any i 0 ((L.length : Int) - 1) W
  have hw1 : IntKind.i64.wrap ((L.length : Int) - 1) = (L.length : Int) - 1 := IntWalk.i64_in _ (by omega)
  obtain ⟨R1, hR1⟩ : ∃ R1, okTree (L.map (·.1)) = R1 := ⟨_, rfl⟩
  obtain ⟨R2, hR2⟩ : ∃ R2, (decide (0 ≤ i) && decide (i ≤ (L.length : Int) - 1)) = R2 := ⟨_, rfl⟩
  rw [hR1, hR2]
  simp only [hR1] at hvt
  simp only [hR2] at hrg
  have H1 := Lib.hid hct
  have H2 := Lib.hid hvt
  have H3 := Lib.hid hrg
  have HZ0 := Lib.hid hz0
  have HZ1 := Lib.hid hz1
  have HR2 := Lib.hid hR2
  obtain ⟨x0, _⟩ := row1 hz0
  clear hct hvt hrg hz0 hz1 hv hsm hn hR1 hR2
  go_enter Tryd.func51, Tryd.ntmps51
  go_wp2_with fail
  refine (H2.out _ hg2).mono ?_
  rintro e w1 ⟨rfl, hb1⟩
  have hz0 := (hb1.block _ (lt_of_block HZ0.out)).trans HZ0.out
  have hz1 := (hb1.block _ (lt_of_block HZ1.out)).trans HZ1.out
  clear x0
  obtain ⟨x0, _⟩ := row1 hz0
  obtain ⟨x1, xf1⟩ := row1 hz1
  have hgw1 := hg2.tr hb1
  have HZ0b := Lib.hid hz0
  have HZ1b := Lib.hid hz1
  clear hz0 hz1
  cases R1
  · skip
    go_wp2
    refine bodyPost_ret (results_row_tmp rfl _ _ (w.heap.size + 1) 25 _ (0, 0) _ _ rfl rfl (heap_set1 HZ1b.out) Tryd.underlying25 rfl (by kernel_rfl)) rfl ?_
    exact ⟨_, [], rfl, rfl, OwnN.nil _ (Own.nil _ _ _ _ _), hgw1.setCell (by show w.heap.size ≤ w.heap.size + 1; omega) _⟩
  · go_wp2_with fail
    refine (H3.out _).mono ?_
    rintro e w' ⟨rfl, rfl⟩
    cases R2
    · skip
      go_wp2
      refine bodyPost_ret (results_row_tmp rfl _ _ (w.heap.size + 1) 25 _ (0, 0) _ _ rfl rfl (heap_set1 HZ1b.out) Tryd.underlying25 rfl (by kernel_rfl)) rfl ?_
      exact ⟨_, [], rfl, rfl, OwnN.nil _ (Own.nil _ _ _ _ _), hgw1.setCell (by show w.heap.size ≤ w.heap.size + 1; omega) _⟩
    · have hR2 := HR2.out
      simp only [Bool.and_eq_true, decide_eq_true_eq] at hR2
      obtain ⟨hi0, hi1⟩ := hR2
      obtain ⟨j, rfl⟩ : ∃ j : Nat, i = j := ⟨i.toNat, by omega⟩
      have hjl : j < L.length := by omega
      go_wp2_with fail
      refine (H1.out _ hgw1).mono ?_
      rintro e w3 ⟨u, M, rfl, hM, hown, hb3⟩
      obtain ⟨ua, uc, rfl, hul, huc⟩ := hown.1.form
      have hMl : M.length = L.length := by have := congrArg List.length hM; simpa using this
      have hjm : j < M.length := by omega
      obtain ⟨n, hn⟩ : ∃ n, n = M.length := ⟨_, rfl⟩
      rw [← hn] at hown ⊢
      have hgo := gr_al w3 (.cells #[.slice ua n uc] 25)
      have hzo := heap_alloc_new w3 (.cells #[.slice ua n uc] 25)
      have hobl := hown.block
      have hgw3 := (hgw1.tr hb3).tr hgo
      have hs1 := hgw1.size
      have hs3 : w.heap.size + 2 ≤ w3.heap.size := by have := lt_of_block HZ1b.out; have := hb3.size; omega
      have hz1 := ((hb3.tr hgo).block _ (lt_of_block HZ1b.out)).trans HZ1b.out
      have hown := hown.gr hgo
      have hX := split_map hjm
      obtain ⟨x, hx⟩ : ∃ x, x = M[j] := ⟨_, rfl⟩
      obtain ⟨A, hA⟩ : ∃ A, A = M.take j := ⟨_, rfl⟩
      obtain ⟨B, hB⟩ : ∃ B, B = M.drop (j + 1) := ⟨_, rfl⟩
      have hAl : A.length = j := by rw [hA, List.length_take]; omega
      have hsub : (A ++ B).Sublist M := by rw [hA, hB]; exact sub_without' M j
      have hMA : (A ++ B).map (·.1) = (L.map (·.1)).take j ++ (L.map (·.1)).drop (j + 1) := by rw [hA, hB, ← hM, List.map_append, List.map_take, List.map_drop]
      rw [← hx, ← hA, ← hB] at hX
      have hone : ∀ r ∈ B, r.2.oneCell' = true := fun r hr => one_of_own (hown.2.1 r (by rw [hX]; simp [hr]))
      have hownX := hown.1
      rw [hX] at hownX
      obtain ⟨g, c', e, hbb, hbl, hc', hcell, hfr⟩ := own_rowK (K := 6) (enc := eF) (fun _ => rfl) hownX
      injection e with e1 e2 e3
      subst e3
      clear e2 hcell hfr hc'
      have hgb : w.heap.size + 2 ≤ g ∧ g < w3.heap.size ∧ w1.heap.size + 2 ≤ g := by
        have := hobl g (Or.inl (by rw [e1]; rfl))
        omega
      obtain ⟨q, hq⟩ : ∃ q, q + 1 = n := ⟨n - 1, by omega⟩
      have hwj : IntKind.i64.wrap ((j : Int) + 1) = (j : Int) + 1 := IntWalk.i64_in _ (by omega)
      have hn1 : ((j : Int) + 1).toNat = j + 1 := by omega
      have b0 : (0 : Int) ≤ (j : Int) + 1 := by omega
      have b1 : (j : Int) ≤ (n : Int) := by omega
      have b2 : (j : Int) + 1 ≤ (n : Int) := by omega
      have b3 : (n : Int) ≤ (uc : Int) := by omega
      have b4 : (j : Int) ≤ (uc : Int) := by omega
      have hnb : n ≤ 1048576 := by omega
      have hqc : q ≤ uc := by omega
      have hqA : q = A.length + B.length := by
        have := congrArg List.length hX
        rw [List.length_append, List.length_cons] at this
        omega
      have hlo := lt_of_block hzo
      obtain ⟨xo, xfo⟩ := row1 hzo
      have HZO := Lib.hid hzo
      have HZ1d := Lib.hid hz1
      have HOX := Lib.hid hownX
      have HON := Lib.hid hown
      have HSUB := Lib.hid hsub
      have HMA := Lib.hid hMA
      have HE1 := Lib.hid e1
      have HQ := Lib.hid hq
      have HQA := Lib.hid hqA
      have HAL := Lib.hid hAl
      have HONE := Lib.hid hone
      have HOB := Lib.hid hobl
      have hA' := Own.take (enc := eF) (k := 6) (fun _ => rfl) hownX j (by rw [← hX]; omega)
      rw [List.take_left' hAl] at hA'
      have hB' := (hownX.reads (fun _ _ => rfl)).drop (j + 1) (by rw [← hX]; omega)
      rw [← hX, ← hn, hX, show (A ++ x :: B).drop (j + 1) = B by rw [← hAl, List.drop_append]; simp] at hB'
      obtain ⟨A2, hA2⟩ : ∃ A2, (if uc = j + 1 then ua else Option.map (fun x => x.add ((j + 1) * 6)) ua) = A2 := ⟨_, rfl⟩
      rw [hA2] at hB'
      have hA2s : A2.isSome = true := by
        rw [← hA2, HE1.out]; split <;> rfl
      have HA' := Lib.hid hA'
      have HB' := Lib.hid hB'
      have HA2 := Lib.hid hA2s
      clear hA' hB' hA2s hownX hown hX hone hsub hMA e1 hq hqA hAl hobl hzo hz1 hM hMl hA hB hx hjm hn x0 x1 xf1 hbb hbl
      go_wp2
      go_region_law (refine step_app_in _ rfl (.tmp 25) (.tmp 30) ti_filO rfl (q := q) (by simp [Act.eval, Act.put]) HE1.out (HA'.out.drewN 1) (by simp [Act.eval, Act.put]) HA2.out (HB'.out.drewN 1) (fun _ _ => rfl) (fun r hr u hu => by simp only [eF, List.mem_cons, List.not_mem_nil, or_false] at hu; rcases hu with rfl | rfl | rfl | rfl | rfl | rfl <;> first | rfl | exact HONE.out r hr) HQA.out hqc ?_
                     intro w6 hown6 hg6
                     have hzt := (hg6.block _ hlo (by intro y; injection y with y; omega)).trans HZO.out
                     obtain ⟨yo, yfo⟩ := row1 hzt)
      all_goals
        have o9 : OwnN w6 (w1.heap.size + 2) 55 6 eF 78 5 eSt Fil.body (.slice ua q uc) (A ++ B) := HON.out.subrows HSUB.out hown6 (fun r hr b hb => by
          have h1 := HON.out.2.2.2 r hr b hb
          have h2 := ((HON.out.2.1 r hr).block b hb).2
          have eo : (Value.slice ua q uc).ownBlock = (Value.slice ua n uc).ownBlock := by rw [HE1.out]; rfl
          refine ⟨hg6.block b h2 (fun y => h1 ?_), eo ▸ h1⟩
          rw [HE1.out]; exact y.symm)
        have hgw6 : Gr w w6 := hgw3.grown ⟨hg6.os, hg6.tape, hg6.output, hg6.size, hg6.block⟩ hgw3.size (fun b hb => by injection hb with hb; omega)
        have hz16 := (hg6.block (w.heap.size + 1) (Nat.lt_trans (by omega) hlo) (by intro y; injection y with y; omega)).trans HZ1d.out

        skip
        have hzf := heap_set1 (b0 := .slice ua q uc) hzt
        have o10 := o9.chg (ChgN.set w6 w3.heap.size 0 (.slice ua q uc) (p := fun b => b = w3.heap.size) rfl) (fun b hb y => by have := (HOB.out b (ownsN_sub HSUB.out (by rw [HE1.out]; rfl) hb)).2; omega)
        have hg10 : Gr w (w6.setCell ⟨w3.heap.size, 0, none⟩ (.slice ua q uc)) := hgw6.setCell (p := ⟨w3.heap.size, 0, none⟩) (by show w.heap.size ≤ w3.heap.size; omega) _
        have hz1e := set_othero (b' := w3.heap.size) (o := 0) (v := .slice ua q uc) hz16 (by omega)
        obtain ⟨xo, xfo⟩ := row1 hzf
        obtain ⟨x1, xf1⟩ := row1 hz1e
        have HZ1e := Lib.hid hz1e
        have O10 := Lib.hid o10
        clear hz1e o10 hzf
        go_wp2
        refine bodyPost_ret (results_row_tmp rfl _ _ (w.heap.size + 1) 25 _ (0, 0) _ _ rfl rfl (heap_set1 HZ1e.out) Tryd.underlying25 rfl (by kernel_rfl)) rfl ?_
        exact ⟨_, _, rfl, HMA.out, (O10.out.mono (by omega)).chg (ChgN.set _ _ _ _ (p := fun b => b = w.heap.size + 1) rfl) (fun y hy q => by have := (O10.out.block y hy).1; omega), hg10.setCell (by show w.heap.size ≤ w.heap.size + 1; omega) _⟩
end Go.Proofs.YtepljjaienpepaaDoor
