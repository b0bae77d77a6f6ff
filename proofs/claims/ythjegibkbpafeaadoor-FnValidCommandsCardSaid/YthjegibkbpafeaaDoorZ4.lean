/-
  Walks of the drawing of parts, names and packages from a code of bytes: short texts, the reader asked a few times more.
-/
import Derived.Test.YthjegibkbpafeaaDoorReaderZ
import Derived.Test.YthjegibkbpafeaaDoorNamesBZ
import Derived.Test.YthjegibkbpafeaaDoorZ2
import Derived.Test.YthjegibkbpafeaaDoorZ3
namespace Go.Proofs.YthjegibkbpafeaaDoor
open Go Go.RowKit Imp
set_option linter.unusedVariables false

/-- A drawn text: at most 'B' bytes; the reader asked at most 'c' times more; nothing else has turned. -/
def DS (w : World) (g p c B : Nat) (e : Ending) (w' : World) : Prop :=
  ∃ s : ByteArray, ∃ p', e = .returned (.string s) ∧ s.size ≤ B ∧ Rdr w' g p' ∧ p' ≤ p + c ∧ w.grownBy w' (some g)

theorem Rdr.al {w : World} {g p : Nat} (h : Rdr w g p) (o : Obj) : Rdr (w.alloc o) g p := by
  have hlt := h.lt
  obtain ⟨bv, M, hg, hM, h1, h2⟩ := h
  exact ⟨bv, M, (Below.heap_alloc w o g hlt).trans hg, hM.keep (Same.alloc _ _ (by omega)), h1, h2⟩
theorem Rdr.gr {w w' : World} {g p : Nat} (h : Rdr w g p) (hb : Gr w w') : Rdr w' g p := by
  have hlt := h.lt
  obtain ⟨bv, M, hg, hM, h1, h2⟩ := h
  exact ⟨bv, M, (hb.block g hlt).trans hg, hM.below hb (by omega), h1, h2⟩
theorem grown_gr {w w1 w2 : World} {g : Option Nat} (h : w.grownBy w1 g) (k : Gr w1 w2) : w.grownBy w2 g :=
  ⟨k.os.trans h.os, k.tape.trans h.tape, k.output.trans h.output, Nat.le_trans h.size k.size, fun b hb hne => (k.block b (Nat.lt_of_lt_of_le hb h.size)).trans (h.block b hb hne)⟩
theorem gr_grown {w w1 w2 : World} {g : Option Nat} (k : Gr w w1) (h : w1.grownBy w2 g) : w.grownBy w2 g :=
  ⟨h.os.trans k.os, h.tape.trans k.tape, h.output.trans k.output, Nat.le_trans k.size h.size, fun b hb hne => (h.block b (Nat.lt_of_lt_of_le hb k.size) hne).trans (k.block b hb)⟩

theorem of_any (g p : Nat) (v : Value) (Q : List ByteArray) (w : World) (h : Rdr w g p) (hp : p < 1000000000) (hv : SlR w (g + 1) w.heap.size 1 eS v Q) (hn : 1 ≤ Q.length) (hl : Q.length ≤ 1000) :
    Calls Tryd.prog 61 #[.pointer (some ⟨g, 0, none⟩), v] w fun e w' => ∃ s, e = .returned (.string s) ∧ s ∈ Q ∧ Rdr w' g (p + 1) ∧ w.grownBy w' (some g) := by
  obtain ⟨a, c, rfl, h1, h2, h3⟩ := hv
  unfold maxLen at h2
  go_enter Tryd.func61, Tryd.ntmps61
  go_wp2_with fail
  refine (pick_any g p _ w h hp (by omega)).mono ?_
  rintro e w1 ⟨k, rfl, hk0, hk1, hr, hgr⟩
  obtain ⟨m, rfl⟩ : ∃ m : Nat, k = m := ⟨k.toNat, by omega⟩
  have hm : m < Q.length := by have := hk1 (by omega); omega
  obtain ⟨b, o, rfl, hb, hc⟩ := h3 m hm
  have c0 : w1.cell? ⟨b, o + m, none⟩ = some (.string Q[m]) := by
    rw [World.cell?_of_block (w := w) (a := ⟨b, o + m, none⟩) (hgr.block b hb.2 (by simp; omega))]
    have := hc 0 _ rfl
    simpa using this
  clear hc h3 hk1
  go_wp2
  go_ret
  exact ⟨_, rfl, List.getElem_mem hm, hr, hgr⟩
/-- Of a list that stands in the text. -/
theorem of_lit (g p : Nat) (Q : List ByteArray) (B : Nat) (w : World) (h : Rdr w g p) (hp : p < 1000000000) (hn : 1 ≤ Q.length) (hl : Q.length ≤ 1000) (hB : ∀ s ∈ Q, s.size ≤ B) :
    Calls Tryd.prog 61 #[.pointer (some ⟨g, 0, none⟩), .slice (some ⟨w.heap.size, 0, none⟩) Q.length Q.length] (w.alloc (.cells (Q.map Value.string).toArray 9)) (DS w g p 1 B) := by
  have hlt := h.lt
  refine (of_any g p _ Q _ (h.al _) hp (SlR.of_block (L := Q) (heap_alloc_new w _) (Nat.le_refl _) (by unfold maxLen; omega) (by omega) (by simp) (fun _ _ => rfl) ?_) hn hl).mono ?_
  · rw [Nat.mul_one, List.take_of_length_le (by simp), List.map_eq_flatMap]; rfl
  · rintro e w' ⟨s, rfl, hs, hr, hg⟩
    exact ⟨s, p + 1, rfl, hB s hs, hr, Nat.le_refl _, gr_grown ((Below.refl _ w).alloc (Nat.le_refl _) _) hg⟩
theorem one_any (g p : Nat) (v : Value) (Q : List Int) (w : World) (h : Rdr w g p) (hp : p < 1000000000) (hv : SlR w (g + 1) w.heap.size 1 eI v Q) (hn : 1 ≤ Q.length) (hl : Q.length ≤ 1000) :
    Calls Tryd.prog 28 #[.pointer (some ⟨g, 0, none⟩), v] w fun e w' => ∃ s, e = .returned (.int .i64 s) ∧ s ∈ Q ∧ Rdr w' g (p + 1) ∧ w.grownBy w' (some g) := by
  obtain ⟨a, c, rfl, h1, h2, h3⟩ := hv
  unfold maxLen at h2
  go_enter Tryd.func28, Tryd.ntmps28
  go_wp2_with fail
  refine (pick_any g p _ w h hp (by omega)).mono ?_
  rintro e w1 ⟨k, rfl, hk0, hk1, hr, hgr⟩
  obtain ⟨m, rfl⟩ : ∃ m : Nat, k = m := ⟨k.toNat, by omega⟩
  have hm : m < Q.length := by have := hk1 (by omega); omega
  obtain ⟨b, o, rfl, hb, hc⟩ := h3 m hm
  have c0 : w1.cell? ⟨b, o + m, none⟩ = some (.int .i64 Q[m]) := by
    rw [World.cell?_of_block (w := w) (a := ⟨b, o + m, none⟩) (hgr.block b hb.2 (by simp; omega))]
    have := hc 0 _ rfl
    simpa using this
  clear hc h3 hk1
  go_wp2
  go_ret
  exact ⟨_, rfl, List.getElem_mem hm, hr, hgr⟩
theorem one_lit (g p : Nat) (Q : List Int) (w : World) (h : Rdr w g p) (hp : p < 1000000000) (hn : 1 ≤ Q.length) (hl : Q.length ≤ 1000) :
    Calls Tryd.prog 28 #[.pointer (some ⟨g, 0, none⟩), .slice (some ⟨w.heap.size, 0, none⟩) Q.length Q.length] (w.alloc (.cells (Q.map (Value.int .i64)).toArray 3)) fun e w' =>
      ∃ s, e = .returned (.int .i64 s) ∧ s ∈ Q ∧ Rdr w' g (p + 1) ∧ w.grownBy w' (some g) := by
  have hlt := h.lt
  refine (one_any g p _ Q _ (h.al _) hp (SlR.of_block (L := Q) (heap_alloc_new w _) (Nat.le_refl _) (by unfold maxLen; omega) (by omega) (by simp) (fun _ _ => rfl) ?_) hn hl).mono ?_
  · rw [Nat.mul_one, List.take_of_length_le (by simp), List.map_eq_flatMap]; rfl
  · rintro e w' ⟨s, rfl, hs, hr, hg⟩
    exact ⟨s, rfl, hs, hr, gr_grown ((Below.refl _ w).alloc (Nat.le_refl _) _) hg⟩
theorem aPart_any (g p : Nat) (w : World) (h : Rdr w g p) (hp : p < 900000000) :
    Calls Tryd.prog 49 #[.pointer (some ⟨g, 0, none⟩)] w (DS w g p 1 1) := by
  go_enter Tryd.func49, Tryd.ntmps49
  go_wp2_with fail
  refine (of_lit g p [⟨#[97]⟩, ⟨#[98]⟩, ⟨#[99]⟩, ⟨#[97]⟩, ⟨#[98]⟩] 1 w h (by omega) (by decide) (by decide) (by decide)).mono ?_
  rintro e w1 ⟨s, p', rfl, hs, hr, hp', hg⟩
  go_wp2
  go_ret
  exact ⟨s, p', rfl, hs, hr, hp', hg⟩
theorem aName_any (g p : Nat) (w : World) (h : Rdr w g p) (hp : p < 800000000) :
    Calls Tryd.prog 34 #[.pointer (some ⟨g, 0, none⟩)] w (DS w g p 4 5) := by
  go_enter Tryd.func34, Tryd.ntmps34
  go_wp2_with fail
  refine (aPart_any g p w h (by omega)).mono ?_
  rintro e w1 ⟨s, p1, rfl, hs, hr, hp1, hg1⟩
  go_wp2_with fail
  refine (one_lit g p1 [0, 1, 0, 1, 2] w1 hr (by omega) (by decide) (by decide)).mono ?_
  rintro e w2 ⟨k, rfl, hk, hr2, hg2⟩
  have hg2 := grown_trans hg1 hg2
  have hk2 : 0 ≤ k ∧ k ≤ 2 := by simp at hk; omega
  obtain ⟨m, rfl⟩ : ∃ m : Nat, k = m := ⟨k.toNat, by omega⟩
  clear hk
  go_wp2
  go_loopw [3, 4] (fun s i wr => ∃ j q : Nat, ∃ x : ByteArray, j ≤ m ∧ i = .int .i64 j ∧ s = .string x ∧ x.size + 2 * j ≤ 5 ∧ Rdr wr g q ∧ q + j ≤ p + 4 ∧ w.grownBy wr (some g)) (fun _ i _ => (intOf i).toNat)
  case atStart => exact ⟨m, p1 + 1, s, Nat.le_refl _, rfl, rfl, by omega, hr2, by omega, hg2⟩
  case round =>
    obtain ⟨j, q, x, hj, rfl, rfl, hx, hrr, hq, hgg⟩ := hrel
    by_cases hlt : 0 < (j : Int)
    · have hj2 : (j : Int) ≤ 2 := by omega
      go_wp2_with fail
      refine (aPart_any g q wr hrr (by omega)).mono ?_
      rintro e w3 ⟨y, p3, rfl, hy, hr3, hp3, hg3⟩
      go_wp2
      go_roundw
      case rel => exact ⟨j - 1, p3, _, by omega, by go_num, rfl, by simp only [ByteArray.size_append]; have e : (⟨#[46]⟩ : ByteArray).size = 1 := rfl; omega, hr3, by omega, grown_trans hgg hg3⟩
      case measure => simp [intOf]; omega
    · go_wp2
      go_ret
      exact ⟨x, q, rfl, by omega, hrr, by omega, hgg⟩
theorem anyName_any (g p : Nat) (w : World) (h : Rdr w g p) (hp : p < 700000000) :
    Calls Tryd.prog 48 #[.pointer (some ⟨g, 0, none⟩)] w (DS w g p 6 7) := by
  go_enter Tryd.func48, Tryd.ntmps48
  go_wp2_with fail
  refine (aName_any g p w h (by omega)).mono ?_
  rintro e w1 ⟨s, p1, rfl, hs, hr, hp1, hg1⟩
  go_wp2_with fail
  refine (pick_any g p1 _ w1 hr (by omega) (by omega)).mono ?_
  rintro e w2 ⟨k, rfl, hk0, hk1, hr2, hgr2⟩
  have hgr2 := grown_trans hg1 hgr2
  clear hk1
  by_cases hk : k = 0
  · have hk' : (k == 0) = true := by simp [hk]
    clear hk
    go_wp2
    go_ret
    exact ⟨_, _, rfl, by simp only [ByteArray.size_append]; have e : (⟨#[46]⟩ : ByteArray).size = 1 := rfl; omega, hr2, by omega, hgr2⟩
  · have hk' : (k == 0) = false := by simp [hk]
    clear hk
    by_cases hk2 : k = 1
    · have hk' : (k == 1) = true := by simp [hk2]
      clear hk2
      go_wp2_with fail
      refine (of_lit g (p1 + 1) [⟨#[]⟩, ⟨#[97, 46, 46, 98]⟩, ⟨#[97, 46, 98, 46, 99, 46, 100]⟩, ⟨#[65]⟩, ⟨#[97, 98, 99, 100]⟩] 7 w2 hr2 (by omega) (by decide) (by decide) (by decide)).mono ?_
      rintro e w3 ⟨s, p', rfl, hs, hr3, hp', hg⟩
      go_wp2
      go_ret
      exact ⟨s, p', rfl, hs, hr3, by omega, grown_trans hgr2 hg⟩
    · have hk' : (k == 1) = false := by simp [hk2]
      clear hk2
      go_wp2
      go_ret
      exact ⟨_, _, rfl, by omega, hr2, by omega, hgr2⟩
/-- What a law is handed by a draw of one text. -/
def DrawnS (w : World) (B : Nat) (e : Ending) (w' : World) : Prop := ∃ s : ByteArray, e = .returned (.string s) ∧ s.size ≤ B ∧ Gr w w'
def DrawnSS (w : World) (B : Nat) (e : Ending) (w' : World) : Prop := ∃ s t : ByteArray, e = .returned (.tuple #[.string s, .string t]) ∧ s.size ≤ B ∧ t.size ≤ B ∧ Gr w w'
end Go.Proofs.YthjegibkbpafeaaDoor

/-
  Walks of the laws on drawn names: their last parts, parents and children.
-/
namespace Go.Proofs.YthjegibkbpafeaaDoor
open Go Go.RowKit Imp
set_option linter.unusedVariables false

theorem beq_same (y : ByteArray) : (y.toList == y.toList) = true := beq_self_eq_true _
theorem bne_same (y : ByteArray) : (y.toList != y.toList) = false := by simp
theorem emp_of {y : ByteArray} {l : List UInt8} (h : bs y = l) : y.toList.isEmpty = l.isEmpty := by rw [isEmpty_toList, h]
theorem size_of {y : ByteArray} {l : List UInt8} (h : bs y = l) : y.size = l.length := by rw [← h, bs_length]
theorem emp_false {l : List UInt8} (h : l ≠ []) : l.isEmpty = false := by cases l with | nil => exact absurd rfl h | cons => rfl

end Go.Proofs.YthjegibkbpafeaaDoor

/-
  Walks: the package in common; the laws on names resolved, relative names and the package in common.
-/
namespace Go.Proofs.YthjegibkbpafeaaDoor
open Go Go.RowKit Imp
set_option linter.unusedVariables false

theorem fCommon_bad2 {a b : List UInt8} (h : vName b = false) : fCommon a b = [] := by
  unfold fCommon
  rw [filter_false (fun x _ => by rw [fUnder, h]; rfl)]; rfl
theorem fCommon_bad1 {a b : List UInt8} (h : vName a = false) : fCommon a b = [] := by
  unfold fCommon
  rw [fAbove, h]; rfl
theorem fAbove_small (s : List UInt8) : (fAbove s).length ≤ 3 ∧ ∀ n ∈ fAbove s, n.length ≤ 11 ∧ vName n = true := by
  unfold fAbove
  split
  · rename_i h
    refine ⟨by unfold aboveP; rw [List.length_map, List.length_range]; exact (vName_parts h).1, fun n hn => ?_⟩
    have := above_name h n hn
    exact ⟨vName_length this, this⟩
  · exact ⟨by simp, by simp⟩

end Go.Proofs.YthjegibkbpafeaaDoor
