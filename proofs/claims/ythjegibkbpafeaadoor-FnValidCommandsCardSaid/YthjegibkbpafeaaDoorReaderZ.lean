/-
  Walks: the reader of pseudo-random numbers: it returns some number of the range, whatever the code.
-/
import Derived.Test.YthjegibkbpafeaaDoorZ2
namespace Go.Proofs.YthjegibkbpafeaaDoor
open Go Go.RowKit Imp

/-- Block 'g' is a reader that has been asked 'p' times. -/
def Rdr (w : World) (g p : Nat) : Prop := ∃ bv, ∃ L : List UInt8, w.heap[g]? = some (.cells #[bv, .int .i64 (p : Int)] 62 (0, 0)) ∧ SlR w 0 g 1 eB bv L ∧ p ≤ 1000000000 ∧ L.length ≤ 1048576

theorem heap_alloc_if (w : World) (o : Obj) (k : Nat) : (w.alloc o).heap[k]? = if k = w.heap.size then some o else w.heap[k]? := by
  show (w.heap.push o)[k]? = _
  rw [Array.getElem?_push]

theorem Rdr.lt {w : World} {g p : Nat} (h : Rdr w g p) : g < w.heap.size := by
  obtain ⟨bv, L, hg, _⟩ := h
  exact (Array.getElem?_eq_some_iff.1 hg).1

theorem newReader_any {lo hi : Nat} (v : Value) (L : List UInt8) (w : World) (hv : SlR w lo hi 1 eB v L) (hhi : hi ≤ w.heap.size) (hl : L.length ≤ 1048576) :
    Calls Tryd.prog 18 #[v] w fun e w' => e = .returned (.pointer (some ⟨w.heap.size, 0, none⟩)) ∧ Rdr w' w.heap.size 0 ∧ w'.heap.size = w.heap.size + 1 ∧ Below w.heap.size w w' := by
  have hv0 := hv
  obtain ⟨a, c, rfl, h1, h2⟩ := hv.form
  by_cases hb : L.length ≤ 2000
  · go_enter Tryd.func18, Tryd.ntmps18
    go_wp2
    go_ret
    refine ⟨rfl, ⟨_, L, heap_alloc_new w _, (hv0.keep (Same.alloc _ _ hhi)).mono (Nat.zero_le _) hhi, by omega, hl⟩, by simp, (Below.refl _ _).alloc (Nat.le_refl _) _⟩
  · have hv1 := hv0.take 2000 (by omega)
    go_enter Tryd.func18, Tryd.ntmps18
    go_wp2
    go_ret
    refine ⟨rfl, ⟨_, L.take 2000, heap_alloc_new w _, (hv1.keep (Same.alloc _ _ hhi)).mono (Nat.zero_le _) hhi, by omega, by simp; omega⟩, by simp, (Below.refl _ _).alloc (Nat.le_refl _) _⟩

theorem pick_low (g p : Nat) (n : Int) (w : World) (h : Rdr w g p) (hp : p < 1000000000) (hn : n < 1) :
    Calls Tryd.prog 29 #[.pointer (some ⟨g, 0, none⟩), .int .i64 n] w fun e w' => e = .returned (.int .i64 0) ∧ w' = w.setCell ⟨g, 1, none⟩ (.int .i64 (p + 1 : Nat)) := by
  obtain ⟨bv, L, hg, hL, _, hl⟩ := h
  have c1 : w.cell? ⟨g, 1, none⟩ = some (.int .i64 p) := by rw [cell_of_row w g 1 _ _ _ hg]; rfl
  have f1 : w.frozen? ⟨g, 1, none⟩ = false := frozen_of_row w g 1 _ _ hg
  clear hg
  go_enter Tryd.func29, Tryd.ntmps29
  go_wp2
  go_ret
  exact ⟨rfl, by rfl⟩
theorem tmod_range {x n : Int} (h : 0 ≤ x) (hn : 1 ≤ n) : 0 ≤ x.tmod n ∧ x.tmod n < n := ⟨Int.tmod_nonneg _ h, Int.tmod_lt_of_pos _ (by omega)⟩
theorem byte_small (b : UInt8) : -9223372036854775808 ≤ (b.toNat : Int) ∧ (b.toNat : Int) ≤ 9223372036854775807 := by have := b.toNat_lt; omega

theorem xor_nonneg (x y : Int) (h1 : 0 ≤ x) (h2 : x < 4611686018427387904) (h3 : 0 ≤ y) (h4 : y < 4611686018427387904) : 0 ≤ bits .xor .i64 x y := by
  obtain ⟨a, rfl⟩ := Int.eq_ofNat_of_zero_le h1
  obtain ⟨b, rfl⟩ := Int.eq_ofNat_of_zero_le h3
  have hx : a ^^^ b < 2 ^ 62 := Nat.xor_lt_two_pow (by omega) (by omega)
  have e1 : (BitVec.ofInt 64 (a : Int)).toNat = a := by
    rw [BitVec.ofInt_natCast, BitVec.toNat_ofNat]; exact Nat.mod_eq_of_lt (by omega)
  have e2 : (BitVec.ofInt 64 (b : Int)).toNat = b := by
    rw [BitVec.ofInt_natCast, BitVec.toNat_ofNat]; exact Nat.mod_eq_of_lt (by omega)
  show 0 ≤ IntKind.i64.wrap ((BitVec.ofInt 64 (a : Int) ^^^ BitVec.ofInt 64 (b : Int)).toNat : Int)
  rw [BitVec.toNat_xor, e1, e2, IntKind.wrap_i64]
  omega

/-- What a pick leaves: a number of the range, and the reader asked once more. -/
def Picked (w : World) (g p : Nat) (n : Int) (e : Ending) (w' : World) : Prop :=
  ∃ k : Int, e = .returned (.int .i64 k) ∧ 0 ≤ k ∧ (1 ≤ n → k < n) ∧ (n < 1 → k = 0) ∧ ∃ m, w' = (w.setCell ⟨g, 1, none⟩ (.int .i64 (p + 1 : Nat))).drewN m

theorem pick_pos (g p : Nat) (n : Int) (w : World) (h : Rdr w g p) (hp : p < 1000000000) (hn : 1 ≤ n) (hn2 : n ≤ 1000000000) :
    Calls Tryd.prog 29 #[.pointer (some ⟨g, 0, none⟩), .int .i64 n] w (Picked w g p n) := by
  obtain ⟨bv, L, hg, hL, _, hl⟩ := h
  have c0 : w.cell? ⟨g, 0, none⟩ = some bv := by rw [cell_of_row w g 0 _ _ _ hg]; rfl
  have c1 : w.cell? ⟨g, 1, none⟩ = some (.int .i64 p) := by rw [cell_of_row w g 1 _ _ _ hg]; rfl
  have f1 : w.frozen? ⟨g, 1, none⟩ = false := frozen_of_row w g 1 _ _ hg
  obtain ⟨a, c, rfl, h1, h2, h3⟩ := hL
  unfold maxLen at h2
  clear hg
  by_cases h0 : L.length = 0
  · have e0 : ((L.length : Int) == 0) = true := by simp [h0]
    go_enter Tryd.func29, Tryd.ntmps29
    go_wp2
    go_ret
    exact ⟨0, rfl, by omega, fun _ => by omega, fun _ => rfl, 0, rfl⟩
  · have e0 : ((L.length : Int) == 0) = false := by rw [beq_eq_false_iff_ne]; omega
    by_cases hk : p < L.length
    · obtain ⟨b, o, rfl, hb, hc⟩ := h3 p hk
      have cb : w.cell? ⟨b, o + p, none⟩ = some (.int .u8 L[p].toNat) := by have := hc 0 _ rfl; simpa using this
      have hbg : (⟨b, o + p, none⟩ : Addr) ≠ ⟨g, 1, none⟩ := by intro e; injection e with e1; omega
      have cb2 : (w.setCell ⟨g, 1, none⟩ (.int .i64 ((p : Int) + 1))).cell? ⟨b, o + p, none⟩ = some (.int .u8 L[p].toNat) := by rw [World.cell?_setCell_other _ _ _ _ hbg.symm]; exact cb
      clear hc h3 hbg
      go_enter Tryd.func29, Tryd.ntmps29
      go_wp2
      go_ret
      rw [IntWalk.wrap64_in _ (byte_small _)]
      exact ⟨_, rfl, (tmod_range (by omega) hn).1, fun _ => (tmod_range (by omega) hn).2, fun _ => by omega, 0, rfl⟩
    · have hm1 : p % L.length < L.length := Nat.mod_lt _ (by omega)
      have hm2 : (p * 7 + 3) % L.length < L.length := Nat.mod_lt _ (by omega)
      obtain ⟨b, o, rfl, hb, hc1⟩ := h3 _ hm1
      obtain ⟨b', o', e', hb', hc2⟩ := h3 _ hm2
      injection e' with e'
      injection e' with e1 e2
      subst e1; subst e2
      have cb1 : w.cell? ⟨b, o + p % L.length, none⟩ = some (.int .u8 L[p % L.length].toNat) := by have := hc1 0 _ rfl; simpa using this
      have cb2 : w.cell? ⟨b, o + (p * 7 + 3) % L.length, none⟩ = some (.int .u8 L[(p * 7 + 3) % L.length].toNat) := by have := hc2 0 _ rfl; simpa using this
      have n1 : (⟨g, 1, none⟩ : Addr) ≠ ⟨b, o + p % L.length, none⟩ := by intro e; injection e with e1; omega
      have n2 : (⟨g, 1, none⟩ : Addr) ≠ ⟨b, o + (p * 7 + 3) % L.length, none⟩ := by intro e; injection e with e1; omega
      have d1 : (w.setCell ⟨g, 1, none⟩ (.int .i64 ((p : Int) + 1))).cell? ⟨b, o + p % L.length, none⟩ = some (.int .u8 L[p % L.length].toNat) := by rw [World.cell?_setCell_other _ _ _ _ n1]; exact cb1
      have d2 : (w.setCell ⟨g, 1, none⟩ (.int .i64 ((p : Int) + 1))).cell? ⟨b, o + (p * 7 + 3) % L.length, none⟩ = some (.int .u8 L[(p * 7 + 3) % L.length].toNat) := by rw [World.cell?_setCell_other _ _ _ _ n2]; exact cb2
      generalize hx1 : L[p % L.length].toNat = x1 at *
      generalize hx2 : L[(p * 7 + 3) % L.length].toNat = x2 at *
      have hx1' : x1 < 256 := by rw [← hx1]; exact UInt8.toNat_lt _
      have hx2' : x2 < 256 := by rw [← hx2]; exact UInt8.toNat_lt _
      clear hc1 hc2 h3 n1 n2 hx1 hx2
      have q1 : 0 ≤ (p : Int) % (L.length : Int) := Int.emod_nonneg _ (by omega)
      have q2 : (p : Int) % (L.length : Int) < (L.length : Int) := Int.emod_lt_of_pos _ (by omega)
      have q3 : 0 ≤ ((p : Int) * 7 + 3) % (L.length : Int) := Int.emod_nonneg _ (by omega)
      have q4 : ((p : Int) * 7 + 3) % (L.length : Int) < (L.length : Int) := Int.emod_lt_of_pos _ (by omega)
      have q5 : 0 ≤ (p : Int) / (L.length : Int) := Int.ediv_nonneg (by omega) (by omega)
      have q6 : (p : Int) / (L.length : Int) ≤ (p : Int) := Int.ediv_le_self _ (by omega)
      go_enter Tryd.func29, Tryd.ntmps29
      go_wp2
      go_quiet (fail)
      go_wp2
      go_ret
      have hx0 : 0 ≤ (x1 : Int) * 131 + (x2 : Int) * 1117 + (p : Int) * 29 + (p : Int) / (L.length : Int) * 53 := by omega
      have hx := xor_nonneg _ (((x1 : Int) * 131 + (x2 : Int) * 1117 + (p : Int) * 29 + (p : Int) / (L.length : Int) * 53) / 64) hx0 (by omega) (by omega) (by omega)
      exact ⟨_, rfl, (tmod_range hx hn).1, fun _ => (tmod_range hx hn).2, fun _ => by omega, _, rfl⟩

/-- A call of 'pick': some number of the range; the reader has been asked once more; nothing else has turned. -/
theorem pick_any (g p : Nat) (n : Int) (w : World) (h : Rdr w g p) (hp : p < 1000000000) (hn : n ≤ 1000000000) :
    Calls Tryd.prog 29 #[.pointer (some ⟨g, 0, none⟩), .int .i64 n] w fun e w' => ∃ k : Int, e = .returned (.int .i64 k) ∧ 0 ≤ k ∧ (1 ≤ n → k < n) ∧ Rdr w' g (p + 1) ∧ w.grownBy w' (some g) := by
  have h0 : Calls Tryd.prog 29 #[.pointer (some ⟨g, 0, none⟩), .int .i64 n] w (Picked w g p n) := by
    by_cases h1 : 1 ≤ n
    · exact pick_pos g p n w h hp h1 hn
    · exact (pick_low g p n w h hp (by omega)).mono fun e w' ⟨he, hw⟩ => ⟨0, he, by omega, fun _ => by omega, fun _ => rfl, 0, hw⟩
  refine h0.mono fun e w' ⟨k, he, hk0, hk1, _, m, hw⟩ => ⟨k, he, hk0, hk1, ?_, ?_⟩
  · obtain ⟨bv, L, hg, hL, _, hl⟩ := h
    subst hw
    refine ⟨bv, L, ?_, hL.keep (fun b h1 h2 => ?_), by omega, hl⟩
    · exact (heap_setCell_same w g 1 _ _ _ hg)
    · exact Below.heap_setCell w _ _ b (by show b ≠ g; omega)
  · subst hw
    exact ⟨rfl, rfl, rfl, by simp [World.setCell, World.drewN], fun b _ hb => Below.heap_setCell w _ _ b (by intro e; subst e; exact hb rfl)⟩

theorem grown_trans {a b c : World} {g : Option Nat} (h : a.grownBy b g) (k : b.grownBy c g) : a.grownBy c g :=
  ⟨k.os.trans h.os, k.tape.trans h.tape, k.output.trans h.output, Nat.le_trans h.size k.size, fun i hi hne => (k.block i (Nat.lt_of_lt_of_le hi h.size) hne).trans (h.block i hi hne)⟩

/-- A drawn list of ints: some short list, laid behind block 'g'. -/
def DrawnInts (w : World) (g p c : Nat) (e : Ending) (w' : World) : Prop :=
  ∃ v, ∃ L : List Int, ∃ p', e = .returned v ∧ SlR w' (g + 1) w'.heap.size 1 eI v L ∧ L.length ≤ 3 ∧ Rdr w' g p' ∧ p' ≤ p + c ∧ w.grownBy w' (some g)

theorem drawn_new {w w1 : World} {g p p' c : Nat} (h : Rdr w1 g p') (hp : p' ≤ p + c) (hg : w.grownBy w1 (some g)) (L : List Int) (hl : L.length ≤ 3) :
    DrawnInts w g p c (.returned (.slice (some ⟨w1.heap.size, 0, none⟩) L.length L.length)) (w1.alloc (.cells (L.flatMap eI).toArray 3)) := by
  have hlt := h.lt
  refine ⟨_, L, p', rfl, SlR.of_block (heap_alloc_new w1 _) (Nat.le_refl _) (by unfold maxLen; omega) (by omega) (by simp) (fun _ _ => rfl) ?_, hl, ?_, hp, ?_⟩
  · simp [List.take_of_length_le, flatMap_len (enc := eI) (k := 1) L (fun _ _ => rfl)]
  · obtain ⟨bv, M, hg, hM, h1, h2⟩ := h
    exact ⟨bv, M, (Below.heap_alloc w1 _ g hlt).trans hg, hM.keep (Same.alloc _ _ (by omega)), h1, h2⟩
  · exact ⟨hg.os, hg.tape, hg.output, Nat.le_trans hg.size (by simp), fun b hb hne => (Below.heap_alloc w1 _ b (Nat.lt_of_lt_of_le hb hg.size)).trans (hg.block b hb hne)⟩

theorem somePath_any (g p : Nat) (w : World) (h : Rdr w g p) (hp : p < 900000000) :
    Calls Tryd.prog 60 #[.pointer (some ⟨g, 0, none⟩)] w (DrawnInts w g p 10) := by
  go_enter Tryd.func60, Tryd.ntmps60
  go_wp2_with fail
  refine (pick_any g p _ w h (by omega) (by omega)).mono ?_
  rintro e w1 ⟨k, rfl, hk0, hk1, hr, hgr⟩
  go_wp2
  all_goals go_ret
  all_goals first
    | exact drawn_new hr (by omega) hgr [1, 0] (by decide)
    | exact drawn_new hr (by omega) hgr [2, 1, 0] (by decide)
    | exact drawn_new hr (by omega) hgr [0] (by decide)
    | exact drawn_new hr (by omega) hgr [1] (by decide)
    | exact drawn_new hr (by omega) hgr [0, 1] (by decide)
    | exact drawn_new hr (by omega) hgr [0, 1, 2] (by decide)
theorem heap_a4 (w : World) (a b c d : Obj) : ((((w.alloc a).alloc b).alloc c).alloc d).heap[w.heap.size]? = some a ∧ ((((w.alloc a).alloc b).alloc c).alloc d).heap[w.heap.size + 1]? = some b ∧
    ((((w.alloc a).alloc b).alloc c).alloc d).heap[w.heap.size + 1 + 1]? = some c ∧ ((((w.alloc a).alloc b).alloc c).alloc d).heap[w.heap.size + 1 + 1 + 1]? = some d := by
  simp only [heap_alloc_if, World.size_alloc]
  refine ⟨?_, ?_, ?_, ?_⟩
  · rw [if_neg (by omega), if_neg (by omega), if_neg (by omega), if_pos trivial]
  · rw [if_neg (by omega), if_neg (by omega), if_pos trivial]
  · rw [if_neg (by omega), if_pos trivial]
  · rw [if_pos trivial]
theorem World.grownBy_alloc4 (w : World) (a b c d : Obj) (row : Option Nat) : w.grownBy ((((w.alloc a).alloc b).alloc c).alloc d) row :=
  grown_trans (grown_trans (grown_trans (World.grownBy_alloc w a row) (World.grownBy_alloc _ b row)) (World.grownBy_alloc _ c row)) (World.grownBy_alloc _ d row)
theorem Rdr.alloc {w : World} {g p : Nat} (h : Rdr w g p) (o : Obj) : Rdr (w.alloc o) g p := by
  have hlt := h.lt
  obtain ⟨bv, M, hg, hM, h1, h2⟩ := h
  exact ⟨bv, M, (Below.heap_alloc w o g hlt).trans hg, hM.keep (Same.alloc _ _ (by omega)), h1, h2⟩

theorem anyPath_any (g p : Nat) (w : World) (h : Rdr w g p) (hp : p < 800000000) :
    Calls Tryd.prog 47 #[.pointer (some ⟨g, 0, none⟩)] w (DrawnInts w g p 12) := by
  go_enter Tryd.func47, Tryd.ntmps47
  go_wp2_with fail
  refine (pick_any g p _ w h (by omega) (by omega)).mono ?_
  rintro e w1 ⟨k, rfl, hk0, hk1, hr, hgr⟩
  by_cases hk : k = 0
  · have hk' : (k == 0) = true := by simp [hk]
    clear hk
    go_wp2_with fail
    have hlt := hr.lt
    refine (pick_any g (p + 1) _ _ ((((hr.alloc _).alloc _).alloc _).alloc _) (by omega) (by omega)).mono ?_
    rintro e w2 ⟨j, rfl, hj0, hj1, hr2, hgr2⟩
    have hj3 := hj1 (by omega)
    have b3 := hgr2.block (w1.heap.size + 1 + 1 + 1) (by simp <;> omega) (by simp <;> omega)
    have b0 := hgr2.block (w1.heap.size) (by simp <;> omega) (by simp <;> omega)
    have b1 := hgr2.block (w1.heap.size + 1) (by simp <;> omega) (by simp <;> omega)
    have b2 := hgr2.block (w1.heap.size + 1 + 1) (by simp <;> omega) (by simp <;> omega)
    obtain ⟨a0, a1, a2, a3⟩ := heap_a4 w1 (.cells #[] 3) (.cells #[.int .i64 0, .int .i64 0] 3) (.cells #[.int .i64 3] 3) (.cells #[.slice (some ⟨w1.heap.size, 0, none⟩) 0 0, .slice (some ⟨w1.heap.size + 1, 0, none⟩) 2 2, .slice (some ⟨w1.heap.size + 1 + 1, 0, none⟩) 1 1] 41)
    rw [a0] at b0
    rw [a1] at b1
    rw [a2] at b2
    rw [a3] at b3
    have hsz := hgr2.size
    simp at hsz
    have hgrs := grown_trans (grown_trans hgr (World.grownBy_alloc4 w1 _ _ _ _ (some g))) hgr2
    have hj : j = 0 ∨ j = 1 ∨ j = 2 := by omega
    have d0 : w2.cell? ⟨w1.heap.size + 1 + 1 + 1, 0, none⟩ = some (.slice (some ⟨w1.heap.size, 0, none⟩) 0 0) := by rw [cell_of_row w2 _ _ _ _ _ b3]; rfl
    have d1 : w2.cell? ⟨w1.heap.size + 1 + 1 + 1, 1, none⟩ = some (.slice (some ⟨w1.heap.size + 1, 0, none⟩) 2 2) := by rw [cell_of_row w2 _ _ _ _ _ b3]; rfl
    have d2 : w2.cell? ⟨w1.heap.size + 1 + 1 + 1, 2, none⟩ = some (.slice (some ⟨w1.heap.size + 1 + 1, 0, none⟩) 1 1) := by rw [cell_of_row w2 _ _ _ _ _ b3]; rfl
    have r0 : SlR w2 (g + 1) w2.heap.size 1 eI (.slice (some ⟨w1.heap.size, 0, none⟩) 0 0) [] := SlR.of_block (L := []) b0 (Nat.le_refl _) (by unfold maxLen; decide) (by omega) (by omega) (fun _ _ => rfl) rfl
    have r1 : SlR w2 (g + 1) w2.heap.size 1 eI (.slice (some ⟨w1.heap.size + 1, 0, none⟩) 2 2) [0, 0] := SlR.of_block (L := [0, 0]) b1 (Nat.le_refl _) (by unfold maxLen; decide) (by omega) (by omega) (fun _ _ => rfl) rfl
    have r2 : SlR w2 (g + 1) w2.heap.size 1 eI (.slice (some ⟨w1.heap.size + 1 + 1, 0, none⟩) 1 1) [3] := SlR.of_block (L := [3]) b2 (Nat.le_refl _) (by unfold maxLen; decide) (by omega) (by omega) (fun _ _ => rfl) rfl
    clear b0 b1 b2 b3 hj1
    rcases hj with rfl | rfl | rfl
    all_goals go_wp2
    all_goals go_ret
    · exact ⟨_, _, _, rfl, r0, by simp, hr2, by omega, hgrs⟩
    · exact ⟨_, _, _, rfl, r1, by simp, hr2, by omega, hgrs⟩
    · exact ⟨_, _, _, rfl, r2, by simp, hr2, by omega, hgrs⟩
  · have hk' : (k == 0) = false := by simp [hk]
    clear hk
    go_wp2_with fail
    refine (somePath_any g (p + 1) w1 hr (by omega)).mono ?_
    rintro e w2 ⟨v, L, p', rfl, hL, hl, hr2, hp2, hgr2⟩
    go_wp2
    go_ret
    exact ⟨v, L, p', rfl, hL, hl, hr2, by omega, grown_trans hgr hgr2⟩
end Go.Proofs.YthjegibkbpafeaaDoor
