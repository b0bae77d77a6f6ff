/-
  Walks: bodies drawn. Printed by drawb.py.
-/
import Derived.Test.YtepljjaienpepaaDoorDrawBZ
namespace Go.Proofs.YtepljjaienpepaaDoor
open Go Go.RowKit Imp
set_option linter.unusedVariables false

theorem ti_stmS : TI Tryd.prog 53 78 5 56 := TI.mk' (z := zSt) Tryd.underlying53 (by kernel_rfl) rfl (by decide)
def DBodyS (w : World) (g p c : Nat) (e : Ending) (w' : World) : Prop :=
  ∃ v, ∃ L : List Stm, ∃ p', e = .returned v ∧ Own w' w.heap.size 78 5 eSt v L ∧ L.length ≤ 4 ∧ (∀ s ∈ L, s.mod.size ≤ 5 ∧ s.name.size ≤ 5 ∧ smSt s) ∧ Rdr w' g p' ∧ p' ≤ p + c ∧ w.grownBy w' (some g)
set_option maxHeartbeats 3200000 in
theorem someBody_sm (g p : Nat) (w : World) (h : Rdr w g p) (hp : p < 600000000) :
    Calls Tryd.prog 54 #[.pointer (some ⟨g, 0, none⟩)] w (DBodyS w g p 100) := by
  have hlt := h.lt
  have ho0 : Own (w.alloc (.cells #[] 78)) w.heap.size 78 5 eSt (.slice (some ⟨w.heap.size, 0, none⟩) 0 0) ([] : List Stm) := Own.empty w w.heap.size 78 5 eSt (Nat.le_refl _)
  go_enter Tryd.func54, Tryd.ntmps54
  go_wp2_with fail
  refine (pick_any g p 2 _ (h.al _) (by omega) (by omega)).mono ?_
  rintro e w1 ⟨k, rfl, hk0, hk1, hr1, hg1⟩
  have ho1 := Own.keepR ho0 hg1 hlt
  have gg1 := grown_tr (grown_al w _ _) hg1
  obtain ⟨pl, hpl⟩ : ∃ pl : Bool, (k == 0) = pl := ⟨_, rfl⟩
  clear hk0 hk1 hg1 ho0
  go_wp2_with fail
  refine (one_lit g _ [2, 1, 3, 0, 4] w1 hr1 (by omega) (by decide) (by decide)).mono ?_
  rintro e w2 ⟨n, rfl, hn, hr2, hg2⟩
  have hn4 : 0 ≤ n ∧ n ≤ 4 := by simp at hn; omega
  obtain ⟨m, rfl⟩ : ∃ m : Nat, n = m := ⟨n.toNat, by omega⟩
  have ho2 := Own.keepR ho1 hg2 hlt
  have gg2 := grown_tr gg1 hg2
  clear hn hg2 ho1 gg1 hr1
  go_wp2
  go_loopw [3, 5] (fun o i wr => ∃ j : Nat, i = .int .i64 j ∧ ∃ L : List Stm, Own wr w.heap.size 78 5 eSt o L ∧ L.length + j ≤ 4 ∧ (∀ s ∈ L, s.mod.size ≤ 5 ∧ s.name.size ≤ 5 ∧ smSt s) ∧ ∃ p', Rdr wr g p' ∧ p' + 24 * j ≤ p + 100 ∧ w.grownBy wr (some g)) (fun _ i _ => (intOf i).toNat)
  case atStart => exact ⟨m, rfl, [], ho2, by simp; omega, by simp, _, hr2, by omega, gg2⟩
  case round =>
    obtain ⟨j, rfl, L, hown, hll, hls, p', hR, hp', gg⟩ := hrel
    by_cases hlt2 : 0 < j
    · have HL := Lib.hid hls
      clear hls ho2 hr2 gg2
      have hjw : IntKind.i64.wrap ((j : Int) - 1) = (j : Int) - 1 := IntWalk.i64_in _ (by omega)
      have hwr : w.heap.size ≤ wr.heap.size := gg.size
      go_wp2_with fail
      refine (someStmt_any g p' wr hR (by omega)).mono ?_
      rintro e w3 ⟨s, p3, rfl, hsm, hsn, hss, hr3, hp3, hg3⟩
      have ho3 := Own.keepR hown hg3 hlt
      have gg3 := grown_tr gg hg3
      have hs3 : w.heap.size ≤ w3.heap.size := gg3.size
      have ha3 : Own (w3.alloc (.cells #[.int .i64 s.kind, .string s.mod, .int .i64 s.level, .string s.name, .int .i64 s.value] 78)) w.heap.size 78 5 eSt _ L := ho3.alloc _
      have hz3 := heap_alloc_new w3 (.cells #[.int .i64 s.kind, .string s.mod, .int .i64 s.level, .string s.name, .int .i64 s.value] 78)
      have hsrc := SlR.oneAt (w3.alloc (.cells #[.int .i64 s.kind, .string s.mod, .int .i64 s.level, .string s.name, .int .i64 s.value] 78)) w.heap.size (w3.heap.size + 1) s 78 (enc := eSt) (k := 5) (by simp) (by omega) rfl
      cases pl
      · have hpl' : (k == 0) = false := hpl
        go_wp2_with (at_builtin
                     refine wpList_app _ rfl (.tmp 39) (.tmp 41) ti_stmS rfl rfl (ha3.alloc _) rfl hsrc (fun _ _ => rfl) (by simp [eSt, Value.oneCell']) (by unfold maxLen; simp; omega) (by simp; omega) (by simp; omega) ?_
                     intro v9 w9 hown9 hg9 hat9)
        go_roundw
        case rel =>
          refine ⟨j - 1, by go_num, L ++ [s], hown9, by simp; omega, ?_, _, ((hr3.al _).al _).grown hg9 (fun b hb => by have := (ha3.block b hb).1; omega), by omega, ?_⟩
          · intro x hx
            rw [List.mem_append, List.mem_singleton] at hx
            rcases hx with hx | rfl
            · exact HL.out x hx
            · exact ⟨hsm, hsn, hss⟩
          · exact grown_fresh2 (grown_tr (grown_tr gg3 (grown_al _ _ _)) (grown_al _ _ _)) hg9 (fun b hb => (ha3.block b hb).1)
        case measure => simp [intOf]; omega
      · by_cases k1 : s.kind = 1
        · have q1 : (s.kind == 1) = true := by simp [k1]
          clear k1
          go_wp2_with fail
          refine (pick_any g _ 100 _ (hr3.al _) (by omega) (by omega)).mono ?_
          rintro e w4 ⟨q, rfl, hq0, hq1, hr4, hg4⟩
          have hz4 := keep_blk hz3 hg4 (by omega)
          have ha4 := Own.keepR ha3 hg4 hlt
          have gg4 := grown_tr (grown_tr gg3 (grown_al _ _ _)) hg4
          have hs4 : w3.heap.size + 1 ≤ w4.heap.size := by have := hg4.size; simpa using this
          obtain ⟨e0, e1, e2, e3, e4, f0, f1, f2, f3, f4⟩ := row5 hz4
          have hput := put5 hz4 (.int .i64 3) (.string ByteArray.empty) (.int .i64 0) (.string ⟨#[121]⟩) (.int .i64 q)
          have ha5 := Own.keep ha4 (fun b hb => hput.2.block b (ha4.block b hb).2 (by intro e; injection e with e; have := (ho3.block b hb).2; omega))
          have hr5 := hr4.grown hput.2 (by intro b hb; injection hb with hb; omega)
          have gg5 := grown_fresh gg4 hput.2 hs3
          have hs5 := gg5.size
          have hsz5 := hput.2.size
          have hsrc5 := SlR.oneAt (((((w4.setCell ⟨w3.heap.size, 0, none⟩ (.int .i64 3)).setCell ⟨w3.heap.size, 1, none⟩ (.string ByteArray.empty)).setCell ⟨w3.heap.size, 2, none⟩ (.int .i64 0)).setCell ⟨w3.heap.size, 3, none⟩ (.string ⟨#[121]⟩)).setCell ⟨w3.heap.size, 4, none⟩ (.int .i64 q)) w.heap.size w4.heap.size (⟨3, ByteArray.empty, 0, ⟨#[121]⟩, q⟩ : Stm) 78 (enc := eSt) (k := 5) (by simp) (by omega) rfl
          have HP := Lib.hid hput
          clear hput hz3 hz4
          go_wp2_with (at_builtin
                       refine wpList_app _ rfl (.tmp 39) (.tmp 41) ti_stmS rfl rfl (ha5.alloc _) rfl hsrc5 (fun _ _ => rfl) (by simp [eSt, Value.oneCell']) (by unfold maxLen; simp; omega) (by simp; omega) (by simp; omega) ?_
                       intro v9 w9 hown9 hg9 hat9)
          go_roundw
          case rel =>
            refine ⟨j - 1, by go_num, L ++ [(⟨3, ByteArray.empty, 0, ⟨#[121]⟩, q⟩ : Stm)], hown9, by simp; omega, ?_, _, ((hr5).al _).grown hg9 (fun b hb => by have := (ha5.block b hb).1; omega), by omega, ?_⟩
            · intro x hx
              rw [List.mem_append, List.mem_singleton] at hx
              rcases hx with hx | rfl
              · exact HL.out x hx
              · exact ⟨(by show (ByteArray.empty : ByteArray).size ≤ 5; decide), (by show (⟨#[121]⟩ : ByteArray).size ≤ 5; decide), by unfold smSt; dsimp only; have := hq1 (by omega); omega⟩
            · exact grown_fresh2 (grown_tr gg5 (grown_al _ _ _)) hg9 (fun b hb => (ha5.block b hb).1)
          case measure => simp [intOf]; omega
        · have q1 : (s.kind == 1) = false := by simp [k1]
          by_cases k4 : s.kind = 4
          · have q4 : (s.kind == 4) = true := by simp [k4]
            clear k1 k4
            go_wp2_with fail
            refine (pick_any g _ 100 _ (hr3.al _) (by omega) (by omega)).mono ?_
            rintro e w4 ⟨q, rfl, hq0, hq1, hr4, hg4⟩
            have hz4 := keep_blk hz3 hg4 (by omega)
            have ha4 := Own.keepR ha3 hg4 hlt
            have gg4 := grown_tr (grown_tr gg3 (grown_al _ _ _)) hg4
            have hs4 : w3.heap.size + 1 ≤ w4.heap.size := by have := hg4.size; simpa using this
            obtain ⟨e0, e1, e2, e3, e4, f0, f1, f2, f3, f4⟩ := row5 hz4
            have hput := put5 hz4 (.int .i64 3) (.string ByteArray.empty) (.int .i64 0) (.string ⟨#[121]⟩) (.int .i64 q)
            have ha5 := Own.keep ha4 (fun b hb => hput.2.block b (ha4.block b hb).2 (by intro e; injection e with e; have := (ho3.block b hb).2; omega))
            have hr5 := hr4.grown hput.2 (by intro b hb; injection hb with hb; omega)
            have gg5 := grown_fresh gg4 hput.2 hs3
            have hs5 := gg5.size
            have hsz5 := hput.2.size
            have hsrc5 := SlR.oneAt (((((w4.setCell ⟨w3.heap.size, 0, none⟩ (.int .i64 3)).setCell ⟨w3.heap.size, 1, none⟩ (.string ByteArray.empty)).setCell ⟨w3.heap.size, 2, none⟩ (.int .i64 0)).setCell ⟨w3.heap.size, 3, none⟩ (.string ⟨#[121]⟩)).setCell ⟨w3.heap.size, 4, none⟩ (.int .i64 q)) w.heap.size w4.heap.size (⟨3, ByteArray.empty, 0, ⟨#[121]⟩, q⟩ : Stm) 78 (enc := eSt) (k := 5) (by simp) (by omega) rfl
            have HP := Lib.hid hput
            clear hput hz3 hz4
            go_wp2_with (at_builtin
                         refine wpList_app _ rfl (.tmp 39) (.tmp 41) ti_stmS rfl rfl (ha5.alloc _) rfl hsrc5 (fun _ _ => rfl) (by simp [eSt, Value.oneCell']) (by unfold maxLen; simp; omega) (by simp; omega) (by simp; omega) ?_
                         intro v9 w9 hown9 hg9 hat9)
            go_roundw
            case rel =>
              refine ⟨j - 1, by go_num, L ++ [(⟨3, ByteArray.empty, 0, ⟨#[121]⟩, q⟩ : Stm)], hown9, by simp; omega, ?_, _, ((hr5).al _).grown hg9 (fun b hb => by have := (ha5.block b hb).1; omega), by omega, ?_⟩
              · intro x hx
                rw [List.mem_append, List.mem_singleton] at hx
                rcases hx with hx | rfl
                · exact HL.out x hx
                · exact ⟨(by show (ByteArray.empty : ByteArray).size ≤ 5; decide), (by show (⟨#[121]⟩ : ByteArray).size ≤ 5; decide), by unfold smSt; dsimp only; have := hq1 (by omega); omega⟩
              · exact grown_fresh2 (grown_tr gg5 (grown_al _ _ _)) hg9 (fun b hb => (ha5.block b hb).1)
            case measure => simp [intOf]; omega
          · have q4 : (s.kind == 4) = false := by simp [k4]
            by_cases k5 : s.kind = 5
            · have q5 : (s.kind == 5) = true := by simp [k5]
              clear k1 k4 k5
              go_wp2_with fail
              refine (pick_any g _ 100 _ (hr3.al _) (by omega) (by omega)).mono ?_
              rintro e w4 ⟨q, rfl, hq0, hq1, hr4, hg4⟩
              have hz4 := keep_blk hz3 hg4 (by omega)
              have ha4 := Own.keepR ha3 hg4 hlt
              have gg4 := grown_tr (grown_tr gg3 (grown_al _ _ _)) hg4
              have hs4 : w3.heap.size + 1 ≤ w4.heap.size := by have := hg4.size; simpa using this
              obtain ⟨e0, e1, e2, e3, e4, f0, f1, f2, f3, f4⟩ := row5 hz4
              have hput := put5 hz4 (.int .i64 3) (.string ByteArray.empty) (.int .i64 0) (.string ⟨#[121]⟩) (.int .i64 q)
              have ha5 := Own.keep ha4 (fun b hb => hput.2.block b (ha4.block b hb).2 (by intro e; injection e with e; have := (ho3.block b hb).2; omega))
              have hr5 := hr4.grown hput.2 (by intro b hb; injection hb with hb; omega)
              have gg5 := grown_fresh gg4 hput.2 hs3
              have hs5 := gg5.size
              have hsz5 := hput.2.size
              have hsrc5 := SlR.oneAt (((((w4.setCell ⟨w3.heap.size, 0, none⟩ (.int .i64 3)).setCell ⟨w3.heap.size, 1, none⟩ (.string ByteArray.empty)).setCell ⟨w3.heap.size, 2, none⟩ (.int .i64 0)).setCell ⟨w3.heap.size, 3, none⟩ (.string ⟨#[121]⟩)).setCell ⟨w3.heap.size, 4, none⟩ (.int .i64 q)) w.heap.size w4.heap.size (⟨3, ByteArray.empty, 0, ⟨#[121]⟩, q⟩ : Stm) 78 (enc := eSt) (k := 5) (by simp) (by omega) rfl
              have HP := Lib.hid hput
              clear hput hz3 hz4
              go_wp2_with (at_builtin
                           refine wpList_app _ rfl (.tmp 39) (.tmp 41) ti_stmS rfl rfl (ha5.alloc _) rfl hsrc5 (fun _ _ => rfl) (by simp [eSt, Value.oneCell']) (by unfold maxLen; simp; omega) (by simp; omega) (by simp; omega) ?_
                           intro v9 w9 hown9 hg9 hat9)
              go_roundw
              case rel =>
                refine ⟨j - 1, by go_num, L ++ [(⟨3, ByteArray.empty, 0, ⟨#[121]⟩, q⟩ : Stm)], hown9, by simp; omega, ?_, _, ((hr5).al _).grown hg9 (fun b hb => by have := (ha5.block b hb).1; omega), by omega, ?_⟩
                · intro x hx
                  rw [List.mem_append, List.mem_singleton] at hx
                  rcases hx with hx | rfl
                  · exact HL.out x hx
                  · exact ⟨(by show (ByteArray.empty : ByteArray).size ≤ 5; decide), (by show (⟨#[121]⟩ : ByteArray).size ≤ 5; decide), by unfold smSt; dsimp only; have := hq1 (by omega); omega⟩
                · exact grown_fresh2 (grown_tr gg5 (grown_al _ _ _)) hg9 (fun b hb => (ha5.block b hb).1)
              case measure => simp [intOf]; omega
            · have q5 : (s.kind == 5) = false := by simp [k5]
              clear k1 k4 k5
              go_wp2_with (at_builtin
                           refine wpList_app _ rfl (.tmp 39) (.tmp 41) ti_stmS rfl rfl (ha3.alloc _) rfl hsrc (fun _ _ => rfl) (by simp [eSt, Value.oneCell']) (by unfold maxLen; simp; omega) (by simp; omega) (by simp; omega) ?_
                           intro v9 w9 hown9 hg9 hat9)
              go_roundw
              case rel =>
                refine ⟨j - 1, by go_num, L ++ [s], hown9, by simp; omega, ?_, _, ((hr3.al _).al _).grown hg9 (fun b hb => by have := (ha3.block b hb).1; omega), by omega, ?_⟩
                · intro x hx
                  rw [List.mem_append, List.mem_singleton] at hx
                  rcases hx with hx | rfl
                  · exact HL.out x hx
                  · exact ⟨hsm, hsn, hss⟩
                · exact grown_fresh2 (grown_tr (grown_tr gg3 (grown_al _ _ _)) (grown_al _ _ _)) hg9 (fun b hb => (ha3.block b hb).1)
              case measure => simp [intOf]; omega
    · go_wp2
      go_ret
      exact ⟨_, L, p', rfl, hown, by omega, hls, hR, by omega, gg⟩
def DBody (w : World) (g p c : Nat) (e : Ending) (w' : World) : Prop :=
  ∃ v, ∃ L : List Stm, ∃ p', e = .returned v ∧ Own w' w.heap.size 78 5 eSt v L ∧ L.length ≤ 4 ∧ (∀ s ∈ L, s.mod.size ≤ 5 ∧ s.name.size ≤ 5) ∧ Rdr w' g p' ∧ p' ≤ p + c ∧ w.grownBy w' (some g)
theorem someBody_any (g p : Nat) (w : World) (h : Rdr w g p) (hp : p < 600000000) :
    Calls Tryd.prog 54 #[.pointer (some ⟨g, 0, none⟩)] w (DBody w g p 100) :=
  (someBody_sm g p w h hp).mono fun e w' ⟨v, L, p', he, ho, hl, hs, hr, hp', hg⟩ => ⟨v, L, p', he, ho, hl, fun s q => ⟨(hs s q).1, (hs s q).2.1⟩, hr, hp', hg⟩
end Go.Proofs.YtepljjaienpepaaDoor
