/-
  Walks: the hash of a body by closures; the laws on sizes and hashes of given bodies.
-/
import Derived.Test.YtbknhodjcgnfnaaDoorHashZ
import Derived.Laws.EntriesVeiled
import Derived.Test.YtbknhodjcgnfnaaDoorZ4
import Derived.Test.YtbknhodjcgnfnaaDoorZ3
import Derived.Deep.RegionHeld3
namespace Imp
open Go Go.RowKit
theorem grown_drew' {w wr : World} {b : Nat} (h : w.grownBy wr (some b)) : w.grownBy wr.drew (some b) := ⟨h.os, h.tape, h.output, h.size, h.block⟩
theorem grown_tr {a b c : World} {g : Option Nat} (h : a.grownBy b g) (k : b.grownBy c g) : a.grownBy c g :=
  ⟨k.os.trans h.os, k.tape.trans h.tape, k.output.trans h.output, Nat.le_trans h.size k.size, fun i hi hne => (k.block i (Nat.lt_of_lt_of_le hi h.size) hne).trans (h.block i hi hne)⟩
theorem grown_set (w : World) (b o : Nat) (v : Value) : w.grownBy (w.setCell ⟨b, o, none⟩ v) (some b) :=
  ⟨rfl, rfl, rfl, by simp [World.setCell], fun i _ hi => Below.heap_setCell w _ _ i (by intro e; subst e; exact hi rfl)⟩
end Imp
namespace Go.Proofs.YtbknhodjcgnfnaaDoor
open Go Go.RowKit Imp
set_option linter.unusedVariables false

abbrev mixV (bn : Nat) : Value := .func (.func 34) #[] #[.pointer (some ⟨bn, 0, none⟩)]
theorem imix_any (n k : Int) (b : Nat) (w : World) (hb : w.heap[b]? = some (.cells #[.int .i64 n] 3 (0, 0))) (hn : hOk n) (hk : 0 ≤ k ∧ k ≤ 1000) :
    Calls Tryd.prog 34 #[.int .i64 k, .pointer (some ⟨b, 0, none⟩)] w fun e w' => e = .returned (.tuple #[]) ∧ w'.heap[b]? = some (.cells #[.int .i64 (mixP n k)] 3 (0, 0)) ∧ w.grownBy w' (some b) := by
  obtain ⟨h1, h2⟩ := hn
  obtain ⟨h3, h4⟩ := hk
  have c0 := cell_of_one hb
  have f0 := free_of_one hb
  have hw1 : IntKind.i64.wrap (131 * n) = 131 * n := IntWalk.i64_in _ (by omega)
  have hw2 : IntKind.i64.wrap (131 * n + k) = 131 * n + k := IntWalk.i64_in _ (by omega)
  have hw3 : IntKind.i64.wrap (131 * n + k + 1) = 131 * n + k + 1 := IntWalk.i64_in _ (by omega)
  have HB := Lib.hid hb
  clear hb
  go_enter Tryd.func34, Tryd.ntmps34
  go_wp2
  go_end0
  exact ⟨rfl, by unfold mixP; rw [Int.mul_comm n 131]; exact one_setCell HB.out, grown_set _ _ _ _⟩
theorem itext_any (n : Int) (s : ByteArray) (bm bn : Nat) (w : World) (hm : w.heap[bm]? = some (.cells #[mixV bn] 57 (0, 0))) (hb : w.heap[bn]? = some (.cells #[.int .i64 n] 3 (0, 0))) (hne : bm ≠ bn) (hn : hOk n) (hs : s.size ≤ maxLen) :
    Calls Tryd.prog 35 #[.string s, .pointer (some ⟨bm, 0, none⟩)] w fun e w' => e = .returned (.tuple #[]) ∧ w'.heap[bn]? = some (.cells #[.int .i64 (mixT n (bs s))] 3 (0, 0)) ∧ w.grownBy w' (some bn) := by
  unfold maxLen at hs
  have HN := Lib.hid hn
  have HM := Lib.hid hm
  have HB0 := Lib.hid hb
  clear hm hb
  go_enter Tryd.func35, Tryd.ntmps35
  go_wp2
  go_loopw [6] (fun i wr => ∃ k : Nat, k ≤ s.size ∧ i = .int .i64 k ∧ wr.heap[bn]? = some (.cells #[.int .i64 (mixB n ((bs s).take k))] 3 (0, 0)) ∧ w.grownBy wr (some bn)) (fun i _ => s.size - (intOf i).toNat)
  case atStart => exact ⟨0, Nat.zero_le _, rfl, by rw [List.take_zero]; exact HB0.out, World.grownBy.refl w _⟩
  case round =>
    obtain ⟨k, hk, rfl, hcell, hgw⟩ := hrel
    have cM := cell_of_one (keep_blk HM.out hgw hne)
    have HG := Lib.hid hgw
    by_cases hlt : k < s.size
    · have hb := mixB_take (n := n) (l := bs s) (k := k) hlt
      have hok := mixB_ok (l := (bs s).take k) HN.out
      have HB := Lib.hid hb
      generalize mixB n ((bs s).take k) = m at HB hok hcell
      have HC := Lib.hid hcell
      have hc0 : 0 ≤ (s[k].toNat : Int) ∧ (s[k].toNat : Int) ≤ 1000 := by have := UInt8.toNat_lt s[k]; omega
      have hwc : IntKind.i64.wrap (s[k].toNat : Int) = (s[k].toNat : Int) := IntWalk.i64_in _ (by omega)
      clear hb hcell hgw
      go_wp2
      go_region_law (go_simp
                     go_at_call 34
                     refine (imix_any m _ bn _ (by exact HC.out) hok hc0).mono ?_
                     rintro e w2 ⟨rfl, hc2, hg2⟩)
      all_goals go_wp2
      all_goals go_roundw
      all_goals first
        | exact ⟨k + 1, by omega, by go_num, by rw [HB.out]; exact hc2, grown_tr (grown_drew' HG.out) hg2⟩
        | (simp [intOf]; omega)
    · have ek : (bs s).take k = bs s := List.take_of_length_le (by rw [bs_length]; omega)
      rw [ek] at hcell
      have hok := mixB_ok (l := bs s) HN.out
      have HC := Lib.hid hcell
      clear hcell hgw
      go_wp2_with fail
      refine (imix_any _ _ bn _ HC.out hok (by omega)).mono ?_
      rintro e w2 ⟨rfl, hc2, hg2⟩
      go_wp2
      go_end0
      exact ⟨rfl, hc2, grown_tr HG.out hg2⟩
set_option maxHeartbeats 1600000 in
theorem iHashOf_any {lo hi : Nat} (v : Value) (L : List Stm) (w : World) (hv : SlR w lo hi 5 eSt v L) (hhi : hi ≤ w.heap.size) (hst : ∀ s ∈ L, szSt s ≤ 16777216) (hok : OkW w) :
    Calls Tryd.prog 12 #[v] w fun e w' => e = .returned (.int .i64 (fHash L)) ∧ Gr w w' := by
  have hv1 := iValidBody_any v L w hv hhi hst hok
  obtain ⟨a, c, rfl, hc1, hc2, h3⟩ := hv
  unfold maxLen at hc2
  unfold fHash
  have hmf : ∀ (fn : Fn) (first cap : Array Value) (w : World), (Instr.makeFunc fn first cap).run Tryd.prog w = .ok (.func fn first cap) w := fun _ _ _ _ => rfl
  cases hb : okBody L
  · rw [hb] at hv1
    go_enter Tryd.func12, Tryd.ntmps12
    go_wp2_with (go_at_call 19; refine hv1.mono ?_; rintro e w1 ⟨rfl, hb1⟩)
    go_ret
    exact ⟨rfl, hb1⟩
  · rw [hb] at hv1
    have hsm := okBody_small hb
    have HS := Lib.hid hsm
    have HT := Lib.hid hst
    clear hb hsm hst
    go_enter Tryd.func12, Tryd.ntmps12
    go_wp2_with fail
    refine hv1.mono ?_
    rintro e w1 ⟨rfl, hb1⟩
    have hs1 := hb1.size
    have hN0 : ((w1.alloc (.cells #[.int .i64 1] 3)).alloc (.cells #[mixV w1.heap.size] 57)).heap[w1.heap.size]? = some (.cells #[.int .i64 1] 3 (0, 0)) := by
      rw [Below.heap_alloc _ _ _ (by simp)]; exact heap_alloc_new w1 _
    have hM0 : ((w1.alloc (.cells #[.int .i64 1] 3)).alloc (.cells #[mixV w1.heap.size] 57)).heap[w1.heap.size + 1]? = some (.cells #[mixV w1.heap.size] 57 (0, 0)) :=
      heap_alloc2_new w1 _ _
    have hG0 : Gr w ((w1.alloc (.cells #[.int .i64 1] 3)).alloc (.cells #[mixV w1.heap.size] 57)) := (hb1.alloc hs1 _).alloc (by simp; omega) _
    have HN0 := Lib.hid hN0
    have HM0 := Lib.hid hM0
    clear hN0 hM0
    go_wp2

    go_loopw [15] (fun i wr => ∃ k : Nat, k ≤ L.length ∧ i = .int .i64 k ∧ wr.heap[w1.heap.size]? = some (.cells #[.int .i64 (hashP (L.take k))] 3 (0, 0)) ∧ wr.heap[w1.heap.size + 1]? = some (.cells #[mixV w1.heap.size] 57 (0, 0)) ∧ Gr w wr) (fun i _ => L.length - (intOf i).toNat)
    case atStart => exact ⟨0, Nat.zero_le _, rfl, HN0.out, HM0.out, hG0⟩
    case round =>
      obtain ⟨k, hk, rfl, hN, hM, hgr⟩ := hrel
      have hgs := hgr.size
      have hlM := lt_of_block hM
      have cN := cell_of_one hN
      have cM := cell_of_one hM
      by_cases hlt : k < L.length
      · obtain ⟨b, o, rfl, hbb, hc⟩ := h3 k hlt
        obtain ⟨x, hx⟩ : ∃ x, x = L[k] := ⟨_, rfl⟩
        obtain ⟨c0, c1, c2, c3, c4⟩ := cells_stm (w := wr) (b := b) (o := o) (k := k) (x := x) (fun j u hu => (hgr.cell (p := ⟨b, o + k * 5 + j, none⟩) (Nat.lt_of_lt_of_le hbb.2 hhi)).trans (hc j u (by rw [← hx]; exact hu)))
        have hh := hashP_take hlt
        have hsz := HT.out _ (List.getElem_mem hlt)
        have hsx := HS.out _ (List.getElem_mem hlt)
        have hn0 := hashP_ok (L := L.take k) (fun s hs => HS.out s (List.mem_of_mem_take hs))
        rw [← hx] at hh hsz hsx
        have HH := Lib.hid hh
        generalize hashP (L.take k) = n at HH hn0 hN cN
        obtain ⟨hk0, hk1, hk2⟩ := hsx
        unfold szSt at hsz
        have hm1 : x.mod.size ≤ maxLen := by unfold maxLen; omega
        have hm2 : x.name.size ≤ maxLen := by unfold maxLen; omega
        have hn1 := mixP_ok hn0 hk0.1
        have hn2 := mixP_ok hn1 hk1.1
        have hn3 := mixP_ok hn2 hk2.1
        have hn4 := mixT_ok (l := bs x.mod) hn3
        have hx0 := heap_alloc_new wr (.cells #[.int .i64 x.kind, .string x.mod, .int .i64 x.level, .string x.name, .int .i64 x.value] 60)
        have hN1 := (Below.heap_alloc wr (.cells #[.int .i64 x.kind, .string x.mod, .int .i64 x.level, .string x.name, .int .i64 x.value] 60) w1.heap.size (by omega)).trans hN
        have hM1 := (Below.heap_alloc wr (.cells #[.int .i64 x.kind, .string x.mod, .int .i64 x.level, .string x.name, .int .i64 x.value] 60) (w1.heap.size + 1) (by omega)).trans hM
        have cM1 := cell_of_one hM1
        have hG1 : Gr w (wr.alloc (.cells #[.int .i64 x.kind, .string x.mod, .int .i64 x.level, .string x.name, .int .i64 x.value] 60)) := hgr.alloc hgs _
        have hne : w1.heap.size + 1 ≠ w1.heap.size := by omega
        have hxne : wr.heap.size ≠ w1.heap.size := by omega
        have HX0 := Lib.hid hx0
        have HN1 := Lib.hid hN1
        have HM1 := Lib.hid hM1
        clear hc h3 hx hh hsz hN hM cN cM hx0 hN1 hM1
        go_wp2_with fail
        refine (imix_any _ _ w1.heap.size _ HN1.out hn0 hk0).mono ?_
        rintro e w2 ⟨rfl, hN2, hg2⟩
        have hM2 := keep_blk HM1.out hg2 hne
        have hX2 := keep_blk HX0.out hg2 hxne
        have cM2 := cell_of_one hM2
        obtain ⟨_, _, d2, _, _⟩ := stm_cells hX2
        go_wp2_with fail
        refine (imix_any _ _ w1.heap.size _ hN2 hn1 hk1).mono ?_
        rintro e w3 ⟨rfl, hN3, hg3⟩
        have hM3 := keep_blk hM2 hg3 hne
        have hX3 := keep_blk hX2 hg3 hxne
        have cM3 := cell_of_one hM3
        obtain ⟨_, _, _, _, d3⟩ := stm_cells hX3
        go_wp2_with fail
        refine (imix_any _ _ w1.heap.size _ hN3 hn2 hk2).mono ?_
        rintro e w4 ⟨rfl, hN4, hg4⟩
        have hM4 := keep_blk hM3 hg4 hne
        have hX4 := keep_blk hX3 hg4 hxne
        obtain ⟨_, d4, _, _, _⟩ := stm_cells hX4
        go_wp2_with fail
        refine (itext_any _ _ (w1.heap.size + 1) w1.heap.size _ hM4 hN4 hne hn3 hm1).mono ?_
        rintro e w5 ⟨rfl, hN5, hg5⟩
        have hM5 := keep_blk hM4 hg5 hne
        have hX5 := keep_blk hX4 hg5 hxne
        obtain ⟨_, _, _, d5, _⟩ := stm_cells hX5
        go_wp2_with fail
        refine (itext_any _ _ (w1.heap.size + 1) w1.heap.size _ hM5 hN5 hne hn4 hm2).mono ?_
        rintro e w6 ⟨rfl, hN6, hg6⟩
        have hM6 := keep_blk hM5 hg6 hne
        go_wp2
        go_roundw
        case rel =>
          refine ⟨k + 1, by omega, by go_num, by rw [HH.out]; exact hN6, hM6, ?_⟩
          exact hG1.grown (grown_tr (grown_tr (grown_tr (grown_tr hg2 hg3) hg4) hg5) hg6) (by simp; omega) (fun b hb => by injection hb with hb; omega)
        case measure => simp [intOf]; omega
      · have ek : L.take k = L := List.take_of_length_le (by omega)
        rw [ek] at cN
        go_wp2
        go_ret
        exact ⟨rfl, hgr⟩
end Go.Proofs.YtbknhodjcgnfnaaDoor

/-
  Walks: marks written into a body and read of it.
-/
namespace Imp
open Go Go.RowKit
theorem grown_gr {w w' : World} {g : Option Nat} (h : Below w.heap.size w w') : w.grownBy w' g := ⟨h.os, h.tape, h.output, h.size, fun i hi _ => h.block i hi⟩
theorem own_rowK {α : Type} {enc : α → List Value} {K : Nat} {w : World} {base t : Nat} {v : Value} {A B : List α} {x : α} (hK : ∀ y, (enc y).length = K) (h : Own w base t K enc v (A ++ x :: B)) :
    ∃ b c, v = .slice (some ⟨b, 0, none⟩) (A ++ x :: B).length c ∧ base ≤ b ∧ b < w.heap.size ∧ (A ++ x :: B).length ≤ c ∧
      (∀ j u, (enc x)[j]? = some u → w.cell? ⟨b, A.length * K + j, none⟩ = some u) ∧ ∀ j, w.frozen? ⟨b, j, none⟩ = false := by
  obtain ⟨h1, h2⟩ := h
  rcases h2 with ⟨_, e⟩ | ⟨g, cap, cur, e, hb, hh, h3, h4, h5, h6⟩
  · simp at e
  · refine ⟨g, cap, e, hb, lt_of_block hh, h3, fun j u hu => ?_, fun j => frozen_of_row w g j _ _ hh⟩
    have hj : j < K := by rw [← hK x]; exact (List.getElem?_eq_some_iff.1 hu).1
    have hlt : A.length * K + j < (A ++ x :: B).length * K := by
      rw [List.length_append, List.length_cons, Nat.add_mul, Nat.add_mul]; omega
    have hA : (A.flatMap enc).length = A.length * K := flatMap_len _ (fun _ _ => hK _)
    rw [cell_of_row w g _ _ _ _ hh, ← Array.getElem?_toList, ← List.getElem?_take_of_lt hlt, h6, List.flatMap_append, List.getElem?_append_right (by omega), hA,
      show A.length * K + j - A.length * K = j by omega, List.flatMap_cons, List.getElem?_append_left (by rw [hK]; exact hj)]
    exact hu
theorem own_setK {α : Type} {enc : α → List Value} {K : Nat} {w : World} {base t b j : Nat} {v u : Value} {A B : List α} {x x' : α} (hK : ∀ y, (enc y).length = K) (h : Own w base t K enc v (A ++ x :: B)) (hv : v.ownBlock = some b) (hj : j < K) (hx : enc x' = (enc x).set j u) :
    Own (w.setCell ⟨b, A.length * K + j, none⟩ u) base t K enc v (A ++ x' :: B) := by
  obtain ⟨h1, h2⟩ := h
  rcases h2 with ⟨_, e⟩ | ⟨g, cap, cur, e, hb, hh, h3, h4, h5, h6⟩
  · simp at e
  · subst e
    injection hv with hv
    subst hv
    have hlen : (A ++ x' :: B).length = (A ++ x :: B).length := by simp
    have hA : (A.flatMap enc).length = A.length * K := flatMap_len _ (fun _ _ => hK _)
    refine ⟨flatMap_len _ (fun _ _ => hK _), .inr ⟨g, cap, cur.setIfInBounds (A.length * K + j) u, by rw [hlen], hb, heap_setCell_same w g _ cur t u hh, by rw [hlen]; exact h3, h4, by simpa using h5, ?_⟩⟩
    have h6' : cur.toList.take ((A ++ x :: B).length * K) = (A ++ x :: B).flatMap enc := h6
    rw [hlen, Array.toList_setIfInBounds, List.take_set, h6', List.flatMap_append, List.flatMap_append, List.flatMap_cons, List.flatMap_cons, hx, List.set_append_right _ _ (by omega), hA,
      show A.length * K + j - A.length * K = j by omega, List.set_append_left _ _ (by rw [hK]; exact hj)]
def stmK (k : Nat) : Stm := ⟨(k : Nat), mText (k + 1), ((k + 2 : Nat) : Int), mText (k + 3), ((k + 4 : Nat) : Int)⟩
def marksB (k n : Nat) : List Stm := (List.range n).map fun i => stmK (k + 5 * i)
theorem marksB_succ (k n : Nat) : marksB k (n + 1) = marksB k n ++ [stmK (k + 5 * n)] := by simp [marksB, List.range_succ]
theorem marksB_length (k n : Nat) : (marksB k n).length = n := by simp [marksB]
theorem marksB_get (k n i : Nat) (h : i < (marksB k n).length) : (marksB k n)[i] = stmK (k + 5 * i) := by simp [marksB]
end Imp
namespace Go.Proofs.YtbknhodjcgnfnaaDoor
open Go Go.RowKit Imp
set_option linter.unusedVariables false
set_option linter.unusedSimpArgs false
end Go.Proofs.YtbknhodjcgnfnaaDoor

/-
  Words for memory: a slice of rows of which each holds a slice of its own, all of them made by the call; what a change of such rows leaves alone.
-/
namespace Imp
open Go Go.RowKit
def ApartN {α : Type} (M : List (α × Value)) : Prop := M.Pairwise fun a b => ∀ i, a.2.ownBlock = some i → b.2.ownBlock ≠ some i
def OwnN (w : World) (base tO K : Nat) {α β : Type} (enc : α × Value → List Value) (tI kI : Nat) (encI : β → List Value) (inner : α → List β) (v : Value) (M : List (α × Value)) : Prop :=
  Own w base tO K enc v M ∧ (∀ r ∈ M, Own w base tI kI encI r.2 (inner r.1)) ∧ ApartN M ∧ ∀ r ∈ M, ∀ b, r.2.ownBlock = some b → v.ownBlock ≠ some b
/-- The blocks of such rows. -/
def ownsN {α : Type} (v : Value) (M : List (α × Value)) (b : Nat) : Prop := v.ownBlock = some b ∨ ∃ r ∈ M, r.2.ownBlock = some b
/-- Grown, and changed in these blocks alone. -/
structure ChgN (p : Nat → Prop) (w w' : World) : Prop where
  os : w'.os = w.os
  tape : w'.tape = w.tape
  output : w'.output = w.output
  size : w.heap.size ≤ w'.heap.size
  block : ∀ b, b < w.heap.size → ¬ p b → w'.heap[b]? = w.heap[b]?
theorem ChgN.refl (p : Nat → Prop) (w : World) : ChgN p w w := ⟨rfl, rfl, rfl, Nat.le_refl _, fun _ _ _ => rfl⟩
theorem ChgN.trans {p : Nat → Prop} {a b c : World} (h : ChgN p a b) (k : ChgN p b c) : ChgN p a c :=
  ⟨k.os.trans h.os, k.tape.trans h.tape, k.output.trans h.output, Nat.le_trans h.size k.size, fun i hi hp => (k.block i (Nat.lt_of_lt_of_le hi h.size) hp).trans (h.block i hi hp)⟩
theorem ChgN.mono {p q : Nat → Prop} {a b : World} (h : ChgN p a b) (hpq : ∀ i, p i → q i) : ChgN q a b := ⟨h.os, h.tape, h.output, h.size, fun i hi hq => h.block i hi (fun hp => hq (hpq i hp))⟩
theorem ChgN.of_gr {p : Nat → Prop} {a b : World} (h : Below a.heap.size a b) : ChgN p a b := ⟨h.os, h.tape, h.output, h.size, fun i hi _ => h.block i hi⟩
theorem ChgN.of_grown {p : Nat → Prop} {a b : World} {g : Option Nat} (h : a.grownBy b g) (hp : ∀ i, g = some i → p i) : ChgN p a b :=
  ⟨h.os, h.tape, h.output, h.size, fun i hi hq => h.block i hi (fun e => hq (hp i e.symm))⟩
theorem ChgN.set {p : Nat → Prop} (w : World) (g o : Nat) (u : Value) (hp : p g) : ChgN p w (w.setCell ⟨g, o, none⟩ u) := ChgN.of_grown (grown_set w g o u) (fun i e => by injection e with e; subst e; exact hp)
/-- Where all these blocks are late ones, the early ones stay. -/
theorem Below.chg {B : Nat} {p : Nat → Prop} {a b c : World} (h : Below B a b) (k : ChgN p b c) (hB : B ≤ b.heap.size) (hp : ∀ i, p i → B ≤ i) : Below B a c := by
  have h' : Below B b c := ⟨k.os, k.tape, k.output, k.size, fun i hi => k.block i (by omega) (fun q => by have := hp i q; omega)⟩
  exact h.trans h'
theorem Own.chg {α : Type} {w w' : World} {base e k : Nat} {enc : α → List Value} {v : Value} {L : List α} {p : Nat → Prop} (h : Own w base e k enc v L) (hc : ChgN p w w') (hp : ∀ b, v.ownBlock = some b → ¬ p b) : Own w' base e k enc v L :=
  h.keep (fun b hb => hc.block b (h.block b hb).2 (hp b hb))
section
variable {w w' : World} {base tO K tI kI : Nat} {α β : Type} {enc : α × Value → List Value} {encI : β → List Value} {inner : α → List β} {v : Value} {M A B : List (α × Value)} {x x' : α × Value}
theorem OwnN.chg {p : Nat → Prop} (h : OwnN w base tO K enc tI kI encI inner v M) (hc : ChgN p w w') (hp : ∀ b, ownsN v M b → ¬ p b) : OwnN w' base tO K enc tI kI encI inner v M :=
  ⟨h.1.chg hc (fun b hb => hp b (Or.inl hb)), fun r hr => (h.2.1 r hr).chg hc (fun b hb => hp b (Or.inr ⟨r, hr, hb⟩)), h.2.2.1, h.2.2.2⟩
theorem OwnN.block (h : OwnN w base tO K enc tI kI encI inner v M) : ∀ b, ownsN v M b → base ≤ b ∧ b < w.heap.size := by
  intro b hb
  rcases hb with hb | ⟨r, hr, hb⟩
  · exact h.1.block b hb
  · exact (h.2.1 r hr).block b hb
theorem OwnN.mono {base' : Nat} (h : OwnN w base tO K enc tI kI encI inner v M) (hb : base' ≤ base) : OwnN w base' tO K enc tI kI encI inner v M :=
  ⟨h.1.mono hb, fun r hr => (h.2.1 r hr).mono hb, h.2.2⟩
theorem OwnN.gr (h : OwnN w base tO K enc tI kI encI inner v M) (hg : Below w.heap.size w w') : OwnN w' base tO K enc tI kI encI inner v M :=
  h.chg (p := fun _ => False) (ChgN.of_gr hg) (fun _ _ h => h)
theorem OwnN.set {g j : Nat} {u : Value} (h : OwnN w base tO K enc tI kI encI inner v (A ++ x :: B)) (hK : ∀ y, (enc y).length = K) (hv : v.ownBlock = some g) (hj : j < K) (hx : enc x' = (enc x).set j u) (h2 : x'.2 = x.2) (hi : inner x'.1 = inner x.1) :
    OwnN (w.setCell ⟨g, A.length * K + j, none⟩ u) base tO K enc tI kI encI inner v (A ++ x' :: B) := by
  obtain ⟨h0, h1, h3, h4⟩ := h
  have hkeep : ∀ r ∈ A ++ x :: B, Own (w.setCell ⟨g, A.length * K + j, none⟩ u) base tI kI encI r.2 (inner r.1) := fun r hr =>
    (h1 r hr).keep (fun b hb => Below.heap_setCell w _ _ b (by intro e; have := h4 r hr b hb; rw [hv] at this; apply this; rw [e]))
  refine ⟨own_setK hK h0 hv hj hx, fun r hr => ?_, ?_, fun r hr b hb => ?_⟩
  · rw [List.mem_append, List.mem_cons] at hr
    rcases hr with hr | rfl | hr
    · exact hkeep r (by simp [hr])
    · have := hkeep x (by simp)
      rw [h2, hi]; exact this
    · exact hkeep r (by simp [hr])
  · unfold ApartN at h3 ⊢
    rw [List.pairwise_append, List.pairwise_cons] at h3 ⊢
    refine ⟨h3.1, ⟨fun a ha => ?_, h3.2.1.2⟩, fun a ha b hb => ?_⟩
    · rw [h2]; exact h3.2.1.1 a ha
    · rw [List.mem_cons] at hb
      rcases hb with rfl | hb
      · rw [h2]; exact h3.2.2 a ha x (by simp)
      · exact h3.2.2 a ha b (by simp [hb])
  · rw [List.mem_append, List.mem_cons] at hr
    rcases hr with hr | rfl | hr
    · exact h4 r (by simp [hr]) b hb
    · rw [h2] at hb; exact h4 x (by simp) b hb
    · exact h4 r (by simp [hr]) b hb
theorem OwnN.sub (h : OwnN w base tO K enc tI kI encI inner v (A ++ x :: B)) (hg : w.grownBy w' x.2.ownBlock) (ho : Own w' base tI kI encI x.2 (inner x'.1)) (h2 : x'.2 = x.2) (he : enc x' = enc x) :
    OwnN w' base tO K enc tI kI encI inner v (A ++ x' :: B) := by
  obtain ⟨h0, h1, h3, h4⟩ := h
  have hfl : (A ++ x' :: B).flatMap enc = (A ++ x :: B).flatMap enc := by simp [he]
  have hle : (A ++ x' :: B).length = (A ++ x :: B).length := by simp
  have h0' : Own w' base tO K enc v (A ++ x :: B) := h0.keep (fun b hb => hg.block b (h0.block b hb).2 (by intro e; exact h4 x (by simp) b e.symm hb))
  have h3' := h3
  unfold ApartN at h3'
  rw [List.pairwise_append, List.pairwise_cons] at h3'
  refine ⟨by unfold Own; rw [hfl, hle]; exact h0', fun r hr => ?_, ?_, fun r hr b hb => ?_⟩
  · rw [List.mem_append, List.mem_cons] at hr
    rcases hr with hr | rfl | hr
    · have hr1 := h1 r (by simp [hr])
      exact hr1.keep (fun b hb => hg.block b (hr1.block b hb).2 (by intro e; exact h3'.2.2 r hr x (by simp) b hb e.symm))
    · rw [h2]; exact ho
    · have hr1 := h1 r (by simp [hr])
      exact hr1.keep (fun b hb => hg.block b (hr1.block b hb).2 (by intro e; exact h3'.2.1.1 r hr b e.symm hb))
  · unfold ApartN
    rw [List.pairwise_append, List.pairwise_cons]
    refine ⟨h3'.1, ⟨fun a ha => ?_, h3'.2.1.2⟩, fun a ha b hb => ?_⟩
    · rw [h2]; exact h3'.2.1.1 a ha
    · rw [List.mem_cons] at hb
      rcases hb with rfl | hb
      · rw [h2]; exact h3'.2.2 a ha x (by simp)
      · exact h3'.2.2 a ha b (by simp [hb])
  · rw [List.mem_append, List.mem_cons] at hr
    rcases hr with hr | rfl | hr
    · exact h4 r (by simp [hr]) b hb
    · rw [h2] at hb; exact h4 x (by simp) b hb
    · exact h4 r (by simp [hr]) b hb
theorem OwnN.nil (v : Value) (h : Own w base tO K enc v []) : OwnN w base tO K enc tI kI encI inner v [] := ⟨h, by simp, List.Pairwise.nil, by simp⟩
end
theorem OwnN.of_T {w : World} {base tF tS : Nat} {v : Value} {M : List FR} (h : OwnT w base tF tS v M) : OwnN w base tF 6 eF tS 5 eSt Fil.body v M := h
theorem OwnN.to_T {w : World} {base tF tS : Nat} {v : Value} {M : List FR} (h : OwnN w base tF 6 eF tS 5 eSt Fil.body v M) : OwnT w base tF tS v M := h
end Imp

/-
  Words for memory: rows that hold slices of their own, grown by one, cut short, and given another slice.
-/
namespace Imp
open Go Go.RowKit
theorem Own.take {α : Type} {w : World} {base e k : Nat} {enc : α → List Value} {a : Option Addr} {n c : Nat} {L : List α} (hk : ∀ x, (enc x).length = k) (h : Own w base e k enc (.slice a n c) L) (m : Nat) (hm : m ≤ L.length) :
    Own w base e k enc (.slice a m c) (L.take m) := by
  have hA : ((L.take m).flatMap enc).length = m * k := by rw [flatMap_len _ (fun _ _ => hk _), List.length_take]; congr 1; omega
  have hsplit : L.flatMap enc = (L.take m).flatMap enc ++ (L.drop m).flatMap enc := by rw [← List.flatMap_append, List.take_append_drop]
  obtain ⟨h1, h2⟩ := h
  have hl : (L.take m).length = m := by rw [List.length_take]; omega
  refine ⟨by rw [hl]; exact hA, ?_⟩
  rcases h2 with ⟨hv, h0⟩ | ⟨g, cap, cur, hv, hb, hh, h3, h4, h5, h6⟩
  · injection hv with e1 e2 e3
    subst e1; subst e3
    have hm0 : m = 0 := by omega
    subst hm0
    exact .inl ⟨rfl, by simp⟩
  · injection hv with e1 e2 e3
    subst e1; subst e3
    refine .inr ⟨g, c, cur, by rw [hl], hb, hh, by omega, h4, h5, ?_⟩
    have hle : m * k ≤ L.length * k := Nat.mul_le_mul_right _ hm
    rw [hl, show m * k = min (m * k) (L.length * k) by omega, ← List.take_take, h6, hsplit, List.take_append_of_le_length (by omega), List.take_of_length_le (by omega)]
section
variable {w w' : World} {base tO K tI kI : Nat} {α β : Type} {enc : α × Value → List Value} {encI : β → List Value} {inner : α → List β} {v v' : Value} {M A B : List (α × Value)} {x x' : α × Value}
theorem OwnN.app (h : OwnN w base tO K enc tI kI encI inner v M) (hx : Own w base tI kI encI x.2 (inner x.1)) (hap : ∀ b, x.2.ownBlock = some b → ¬ ownsN v M b)
    (ho : Own w' base tO K enc v' (M ++ [x])) (hg : w.grownBy w' v.ownBlock) (hat : v'.ownBlock = v.ownBlock ∨ v'.ownBlock = some w.heap.size) : OwnN w' base tO K enc tI kI encI inner v' (M ++ [x]) := by
  obtain ⟨h0, h1, h3, h4⟩ := h
  refine ⟨ho, fun r hr => ?_, ?_, fun r hr b hb => ?_⟩
  · rw [List.mem_append, List.mem_singleton] at hr
    rcases hr with hr | rfl
    · exact (h1 r hr).keep (fun b hb => hg.block b ((h1 r hr).block b hb).2 (by intro e; exact h4 r hr b hb e.symm))
    · exact hx.keep (fun b hb => hg.block b (hx.block b hb).2 (by intro e; exact hap b hb (Or.inl e.symm)))
  · unfold ApartN
    rw [List.pairwise_append]
    refine ⟨h3, List.pairwise_singleton _ _, fun a ha b hb i hi hj => ?_⟩
    rw [List.mem_singleton] at hb
    subst hb
    exact hap i hj (Or.inr ⟨a, ha, hi⟩)
  · rw [List.mem_append, List.mem_singleton] at hr
    rcases hr with hr | rfl
    · rcases hat with e | e
      · rw [e]; exact h4 r hr b hb
      · rw [e]; intro q; injection q with q; have := ((h1 r hr).block b hb).2; omega
    · rcases hat with e | e
      · rw [e]; intro q; exact hap b hb (Or.inl q)
      · rw [e]; intro q; injection q with q; have := (hx.block b hb).2; omega
theorem OwnN.put {g j : Nat} {u : Value} (h : OwnN w base tO K enc tI kI encI inner v (A ++ x :: B)) (hK : ∀ y, (enc y).length = K) (hv : v.ownBlock = some g) (hj : j < K) (hx : enc x' = (enc x).set j u)
    (ho : Own w base tI kI encI x'.2 (inner x'.1)) (hap : ∀ b, x'.2.ownBlock = some b → ¬ ownsN v (A ++ x :: B) b) :
    OwnN (w.setCell ⟨g, A.length * K + j, none⟩ u) base tO K enc tI kI encI inner v (A ++ x' :: B) := by
  obtain ⟨h0, h1, h3, h4⟩ := h
  have hkeep : ∀ r ∈ A ++ x :: B, Own (w.setCell ⟨g, A.length * K + j, none⟩ u) base tI kI encI r.2 (inner r.1) := fun r hr =>
    (h1 r hr).keep (fun b hb => Below.heap_setCell w _ _ b (by intro e; have := h4 r hr b hb; rw [hv] at this; apply this; rw [e]))
  have hin : ∀ r, r ∈ A ∨ r ∈ B → r ∈ A ++ x :: B := fun r hr => by
    rcases hr with hr | hr
    · simp [hr]
    · simp [hr]
  refine ⟨own_setK hK h0 hv hj hx, fun r hr => ?_, ?_, fun r hr b hb => ?_⟩
  · rw [List.mem_append, List.mem_cons] at hr
    rcases hr with hr | rfl | hr
    · exact hkeep r (hin r (Or.inl hr))
    · exact ho.keep (fun b hb => Below.heap_setCell w _ _ b (by intro e; apply hap b hb; left; rw [hv, e]))
    · exact hkeep r (hin r (Or.inr hr))
  · unfold ApartN at h3 ⊢
    rw [List.pairwise_append, List.pairwise_cons] at h3 ⊢
    refine ⟨h3.1, ⟨fun a ha i hi hj => hap i hi (Or.inr ⟨a, hin a (Or.inr ha), hj⟩), h3.2.1.2⟩, fun a ha b hb => ?_⟩
    rw [List.mem_cons] at hb
    rcases hb with rfl | hb
    · intro i hi hj; exact hap i hj (Or.inr ⟨a, hin a (Or.inl ha), hi⟩)
    · exact h3.2.2 a ha b (by simp [hb])
  · rw [List.mem_append, List.mem_cons] at hr
    rcases hr with hr | rfl | hr
    · exact h4 r (hin r (Or.inl hr)) b hb
    · intro q; exact hap b hb (Or.inl q)
    · exact h4 r (hin r (Or.inr hr)) b hb
end
end Imp
