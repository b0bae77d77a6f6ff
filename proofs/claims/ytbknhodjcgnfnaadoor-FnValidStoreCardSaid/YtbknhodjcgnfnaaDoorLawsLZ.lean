/-
  Walks: bodies drawn that may be invalid; the laws on bodies, their sizes and hashes.
-/
import Derived.Test.YtbknhodjcgnfnaaDoorDrawCZ
namespace Imp
open Go Go.RowKit
theorem own_row5 {w : World} {base t : Nat} {v : Value} {x : Stm} {L : List Stm} (h : Own w base t 5 eSt v (x :: L)) :
    ∃ b c, v = .slice (some ⟨b, 0, none⟩) (x :: L).length c ∧ base ≤ b ∧ b < w.heap.size ∧ (x :: L).length ≤ c ∧
      (∀ j u, (eSt x)[j]? = some u → w.cell? ⟨b, j, none⟩ = some u) ∧ ∀ j, w.frozen? ⟨b, j, none⟩ = false := by
  obtain ⟨h1, h2⟩ := h
  rcases h2 with ⟨_, e⟩ | ⟨g, cap, cur, e, hb, hh, h3, h4, h5, h6⟩
  · simp at e
  · refine ⟨g, cap, e, hb, lt_of_block hh, h3, fun j u hu => ?_, fun j => frozen_of_row w g j _ _ hh⟩
    have hj : j < 5 := (List.getElem?_eq_some_iff.1 hu).1
    rw [cell_of_row w g j _ _ _ hh, ← Array.getElem?_toList, ← List.getElem?_take_of_lt (show j < (x :: L).length * 5 by rw [List.length_cons]; omega), h6, List.flatMap_cons, List.getElem?_append_left (by show j < 5; exact hj)]
    exact hu
theorem own_set5 {w : World} {base t b j : Nat} {v u : Value} {x x' : Stm} {L : List Stm} (h : Own w base t 5 eSt v (x :: L)) (hv : v.ownBlock = some b) (hj : j < 5) (hx : eSt x' = (eSt x).set j u) :
    Own (w.setCell ⟨b, j, none⟩ u) base t 5 eSt v (x' :: L) := by
  obtain ⟨h1, h2⟩ := h
  rcases h2 with ⟨_, e⟩ | ⟨g, cap, cur, e, hb, hh, h3, h4, h5, h6⟩
  · simp at e
  · subst e
    injection hv with hv
    subst hv
    refine ⟨flatMap_len _ (fun _ _ => rfl), .inr ⟨g, cap, cur.setIfInBounds j u, rfl, hb, heap_setCell_same w g j cur t u hh, h3, h4, by simpa using h5, ?_⟩⟩
    have h6' : cur.toList.take ((x :: L).length * 5) = (x :: L).flatMap eSt := h6
    rw [List.flatMap_cons] at h6'
    show (cur.setIfInBounds j u).toList.take ((x :: L).length * 5) = _
    rw [Array.toList_setIfInBounds, List.take_set, h6', List.flatMap_cons, hx, List.set_append_left _ _ (by show j < 5; exact hj)]
theorem okBody_without {L : List Stm} (h : okBody L = true) (k : Nat) : okBody (L.take k ++ L.drop (k + 1)) = true := by
  unfold okBody at h ⊢
  rw [Bool.and_eq_true] at h ⊢
  obtain ⟨h1, h2⟩ := h
  have hs := sub_without L k
  refine ⟨List.all_eq_true.mpr (fun x hx => List.all_eq_true.mp h1 x (hs.subset hx)), ?_⟩
  have := hs.length_le
  have := of_decide_eq_true h2
  exact decide_eq_true (by omega)
theorem okBody_sub {L M : List Stm} (h : okBody L = true) (hs : M.Sublist L) : okBody M = true := by
  unfold okBody at h ⊢
  rw [Bool.and_eq_true] at h ⊢
  obtain ⟨h1, h2⟩ := h
  refine ⟨List.all_eq_true.mpr (fun x hx => List.all_eq_true.mp h1 x (hs.subset hx)), ?_⟩
  have := hs.length_le
  have := of_decide_eq_true h2
  exact decide_eq_true (by omega)
theorem totB_append : ∀ (A B : List Stm), totB (A ++ B) = totB A + totB B
  | [], B => by simp [totB]
  | x :: A, B => by rw [List.cons_append, totB, totB, totB_append A B]; omega
theorem totB_five : ∀ {L : List Stm}, (∀ s ∈ L, s.mod.size ≤ 5 ∧ s.name.size ≤ 5) → totB L ≤ 10 * L.length
  | [], _ => by simp [totB]
  | x :: L, h => by
    have := totB_five (L := L) (fun s hs => h s (List.mem_cons_of_mem _ hs))
    obtain ⟨h1, h2⟩ := h x (List.mem_cons_self ..)
    rw [totB, szSt, List.length_cons]; omega
theorem fSize_ok {L : List Stm} (h : okBody L = true) : fSize L = ((3 * L.length + totB L : Nat) : Int) := by unfold fSize; rw [if_pos h]
theorem fSize_bad {L : List Stm} (h : okBody L = false) : fSize L = -1 := by unfold fSize; rw [h]; rfl
theorem fHash_ok {L : List Stm} (h : okBody L = true) : 0 ≤ fHash L ∧ fHash L < 1000003 := by
  unfold fHash; rw [if_pos h]; exact hashP_ok (okBody_small h)
theorem fHash_bad {L : List Stm} (h : okBody L = false) : fHash L = -1 := by unfold fHash; rw [h]; rfl
theorem wpList_appG {P : Program} {α : Type} {enc : α → List Value} (w : World) {ops : Array Oper} {rest : List Oper} {o : Oper} {a : Act} {Q : Exit → Act → World → Prop} (hgd : Region.wanted o (yielded ops a.tmps) = true) (s x : Operand) {t e : TypeId} {k bytes base : Nat} (ti : TI P t e k bytes)
    (ho : o.op = .call { callee := .builtin .append, args := #[s, x], argTypes := #[t, t] }) {v : Value} {L M : List α} (hs : a.eval s = v) (hown : Own w base e k enc v L) {lo hi : Nat} {A : Option Addr} {m c : Nat}
    (hx : a.eval x = .slice A m c) (hsrc : SlR w lo hi k enc (.slice A m c) M) (hk : ∀ x ∈ M, (enc x).length = k) (h1 : ∀ x ∈ M, ∀ u ∈ enc x, u.oneCell' = true)
    (h63 : L.length + M.length ≤ maxLen) (hbytes : (L.length + M.length) * bytes ≤ 140737488355328) (hbase : base ≤ w.heap.size)
    (h : ∀ v' w', Own w' base e k enc v' (L ++ M) → w.grownBy w' v.ownBlock → (v'.ownBlock = v.ownBlock ∨ v'.ownBlock = some w.heap.size) → wpList P ops Q rest (a.put o.dst v') w') : wpList P ops Q (o :: rest) a w :=
  wpList_step fun K hK => by
    rw [if_pos hgd]
    exact wp_app w s x ti ho hs hown hx hsrc hk h1 h63 hbytes hbase fun v' w' h2 h3 h4 => hK _ _ (h v' w' h2 h3 h4)
end Imp
namespace Go.Proofs.YtbknhodjcgnfnaaDoor
open Go Go.RowKit Imp
set_option linter.unusedVariables false

theorem anyBody_any (g p : Nat) (w : World) (h : Rdr w g p) (hp : p < 500000000) :
    Calls Tryd.prog 51 #[.pointer (some ⟨g, 0, none⟩)] w (DBody w g p 110) := by
  have hlt := h.lt
  go_enter Tryd.func51, Tryd.ntmps51
  go_wp2_with fail
  refine (someBody_any g p w h (by omega)).mono ?_
  rintro e w1 ⟨v1, L, p1, rfl, ho1, hll, hls, hr1, hp1, hg1⟩
  cases L with
  | nil =>
    obtain ⟨a1, c1, rfl, _, _⟩ := ho1.form
    simp only [List.length_nil] at *
    go_wp2
    go_ret
    exact ⟨_, [], p1, rfl, ho1, by simp, by simp, hr1, by omega, hg1⟩
  | cons x L =>
    obtain ⟨b, c, rfl, hbb, hbl, hcc, hcell, hfr⟩ := own_row5 ho1
    have hlen : (x :: L).length ≤ 4 := hll
    generalize hn : (x :: L).length = n at *
    have hn1 : 1 ≤ n := by rw [← hn, List.length_cons]; omega
    have hni : (0 : Int) < (n : Int) := by omega
    have hnk : ¬ b = g := by omega
    have HC := Lib.hid hcell
    have HF := Lib.hid hfr
    have HL := Lib.hid hls
    clear hcell hfr hls
    go_wp2_with fail
    refine (pick_any g p1 20 _ hr1 (by omega) (by omega)).mono ?_
    rintro e w2 ⟨k, rfl, _, _, hr2, hg2⟩
    have ho2 := Own.keepR ho1 hg2 hlt
    have gg2 := grown_tr hg1 hg2
    have hbl2 : b < w2.heap.size := Nat.lt_of_lt_of_le hbl hg2.size
    have hws2 : w.heap.size ≤ w2.heap.size := gg2.size
    by_cases h0 : k = 0
    · subst h0
      go_wp2_with fail
      refine (one_lit g _ [-1, 6] w2 hr2 (by omega) (by decide) (by decide)).mono ?_
      rintro e w3 ⟨q, rfl, _, hr3, hg3⟩
      have ho3 := Own.keepR ho2 hg3 hlt
      have gg3 := grown_tr gg2 hg3
      obtain ⟨b', c', e', hbb', hbl3, hcc', hcell3, hfr3⟩ := own_row5 ho3
      injection e' with e1 e2 e3
      injection e1 with e1
      injection e1 with e1
      subst e1
      have c0 := hcell3 0 _ rfl
      have f0 := hfr3 0
      have ho4 := own_set5 (x' := { x with kind := q }) (j := 0) (u := .int .i64 q) ho3 rfl (by decide) rfl
      clear hcell3 hfr3 e2 e3
      go_wp2
      go_ret
      refine ⟨_, { x with kind := q } :: L, _, rfl, by rw [← hn] at ho4 ⊢; exact ho4, by simpa using (show (x :: L).length ≤ 4 by omega), ?_, hr3.grown (grown_set _ _ _ _) (by intro b1 hb1; injection hb1 with hb1; omega), by omega, grown_fresh gg3 (grown_set _ _ _ _) hbb⟩
      intro s hs
      rw [List.mem_cons] at hs
      rcases hs with rfl | hs
      · exact HL.out x (List.mem_cons_self ..)
      · exact HL.out s (List.mem_cons_of_mem _ hs)
    · have q0 : (k == 0) = false := by simp [h0]
      by_cases h1 : k = 1
      · subst h1
        go_wp2_with fail
        refine (one_lit g _ [-1, 100] w2 hr2 (by omega) (by decide) (by decide)).mono ?_
        rintro e w3 ⟨q, rfl, _, hr3, hg3⟩
        have ho3 := Own.keepR ho2 hg3 hlt
        have gg3 := grown_tr gg2 hg3
        obtain ⟨b', c', e', hbb', hbl3, hcc', hcell3, hfr3⟩ := own_row5 ho3
        injection e' with e1 e2 e3
        injection e1 with e1
        injection e1 with e1
        subst e1
        have c0 := hcell3 4 _ rfl
        have f0 := hfr3 4
        have ho4 := own_set5 (x' := { x with value := q }) (j := 4) (u := .int .i64 q) ho3 rfl (by decide) rfl
        clear hcell3 hfr3 e2 e3
        go_wp2
        go_ret
        refine ⟨_, { x with value := q } :: L, _, rfl, by rw [← hn] at ho4 ⊢; exact ho4, by simpa using (show (x :: L).length ≤ 4 by omega), ?_, hr3.grown (grown_set _ _ _ _) (by intro b1 hb1; injection hb1 with hb1; omega), by omega, grown_fresh gg3 (grown_set _ _ _ _) hbb⟩
        intro s hs
        rw [List.mem_cons] at hs
        rcases hs with rfl | hs
        · exact HL.out x (List.mem_cons_self ..)
        · exact HL.out s (List.mem_cons_of_mem _ hs)
      · have q1 : (k == 1) = false := by simp [h1]
        by_cases h2 : k = 2
        · subst h2
          go_wp2_with fail
          refine (of_lit g _ [⟨#[]⟩, ⟨#[65]⟩, ⟨#[97]⟩] 1 w2 hr2 (by omega) (by decide) (by decide) (by decide)).mono ?_
          rintro e w3 ⟨q, p3, rfl, hqs, hr3, hp3, hg3⟩
          have ho3 := Own.keepR ho2 hg3 hlt
          have gg3 := grown_tr gg2 hg3
          obtain ⟨b', c', e', hbb', hbl3, hcc', hcell3, hfr3⟩ := own_row5 ho3
          injection e' with e1 e2 e3
          injection e1 with e1
          injection e1 with e1
          subst e1
          have c0 := hcell3 1 _ rfl
          have f0 := hfr3 1
          have ho4 := own_set5 (x' := { x with mod := q }) (j := 1) (u := .string q) ho3 rfl (by decide) rfl
          clear hcell3 hfr3 e2 e3
          go_wp2
          go_ret
          refine ⟨_, { x with mod := q } :: L, _, rfl, by rw [← hn] at ho4 ⊢; exact ho4, by simpa using (show (x :: L).length ≤ 4 by omega), ?_, hr3.grown (grown_set _ _ _ _) (by intro b1 hb1; injection hb1 with hb1; omega), by omega, grown_fresh gg3 (grown_set _ _ _ _) hbb⟩
          intro s hs
          rw [List.mem_cons] at hs
          rcases hs with rfl | hs
          · exact ⟨by show q.size ≤ 5; omega, (HL.out x (List.mem_cons_self ..)).2⟩
          · exact HL.out s (List.mem_cons_of_mem _ hs)
        · have q2 : (k == 2) = false := by simp [h2]
          clear h0 h1 h2
          go_wp2
          go_ret
          exact ⟨_, x :: L, _, rfl, by rw [← hn] at ho2 ⊢; exact ho2, by omega, HL.out, hr2, by omega, gg2⟩
/-- What a law is handed by the draw of a body. -/
def DrawnB (w : World) (e : Ending) (w' : World) : Prop :=
  ∃ v, ∃ L : List Stm, e = .returned v ∧ SlR w' w.heap.size w'.heap.size 5 eSt v L ∧ L.length ≤ 4 ∧ (∀ s ∈ L, s.mod.size ≤ 5 ∧ s.name.size ≤ 5) ∧ Gr w w'
theorem drawnB_of {w w1 w2 : World} {v : Value} {L : List Stm} (hb : Below w.heap.size w w1) (hsz : w1.heap.size = w.heap.size + 1) (ho : Own w2 w1.heap.size 60 5 eSt v L) (hll : L.length ≤ 4) (hls : ∀ s ∈ L, s.mod.size ≤ 5 ∧ s.name.size ≤ 5) (hg : w1.grownBy w2 (some w.heap.size)) : DrawnB w (.returned v) w2 :=
  ⟨v, L, rfl, (ho.reads (fun _ _ => rfl)).mono (by omega) (Nat.le_refl _), hll, hls, hb.grown hg (by omega) (fun k hk => by injection hk with hk; omega)⟩
end Go.Proofs.YtbknhodjcgnfnaaDoor
