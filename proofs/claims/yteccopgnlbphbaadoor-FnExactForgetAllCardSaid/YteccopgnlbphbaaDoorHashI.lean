/-
  Walks: the hash of a body by closures; the laws on sizes and hashes of given bodies.
-/
import Derived.Test.YteccopgnlbphbaaDoorHash
import Derived.Laws.EntriesVeiled
namespace Imp
open Go Go.RowKit
theorem grown_drew' {w wr : World} {b : Nat} (h : w.grownBy wr (some b)) : w.grownBy wr.drew (some b) := ⟨h.os, h.tape, h.output, h.size, h.block⟩
theorem grown_tr {a b c : World} {g : Option Nat} (h : a.grownBy b g) (k : b.grownBy c g) : a.grownBy c g :=
  ⟨k.os.trans h.os, k.tape.trans h.tape, k.output.trans h.output, Nat.le_trans h.size k.size, fun i hi hne => (k.block i (Nat.lt_of_lt_of_le hi h.size) hne).trans (h.block i hi hne)⟩
theorem grown_set (w : World) (b o : Nat) (v : Value) : w.grownBy (w.setCell ⟨b, o, none⟩ v) (some b) :=
  ⟨rfl, rfl, rfl, by simp [World.setCell], fun i _ hi => Below.heap_setCell w _ _ i (by intro e; subst e; exact hi rfl)⟩
end Imp
namespace Go.Proofs.YteccopgnlbphbaaDoor
open Go Go.RowKit Imp
set_option linter.unusedVariables false

abbrev mixV (bn : Nat) : Value := .func (.func 69) #[] #[.pointer (some ⟨bn, 0, none⟩)]
theorem imix_any (n k : Int) (b : Nat) (w : World) (hb : w.heap[b]? = some (.cells #[.int .i64 n] 3 (0, 0))) (hn : hOk n) (hk : 0 ≤ k ∧ k ≤ 1000) :
    Calls Tryd.prog 69 #[.int .i64 k, .pointer (some ⟨b, 0, none⟩)] w fun e w' => e = .returned (.tuple #[]) ∧ w'.heap[b]? = some (.cells #[.int .i64 (mixP n k)] 3 (0, 0)) ∧ w.grownBy w' (some b) := by
  obtain ⟨h1, h2⟩ := hn
  obtain ⟨h3, h4⟩ := hk
  have c0 := cell_of_one hb
  have f0 := free_of_one hb
  have hw1 : IntKind.i64.wrap (131 * n) = 131 * n := IntWalk.i64_in _ (by omega)
  have hw2 : IntKind.i64.wrap (131 * n + k) = 131 * n + k := IntWalk.i64_in _ (by omega)
  have hw3 : IntKind.i64.wrap (131 * n + k + 1) = 131 * n + k + 1 := IntWalk.i64_in _ (by omega)
  have HB := Lib.hid hb
  clear hb
  go_enter Tryd.func69, Tryd.ntmps69
  go_wp2
  go_end0
  exact ⟨rfl, by unfold mixP; rw [Int.mul_comm n 131]; exact one_setCell HB.out, grown_set _ _ _ _⟩
theorem itext_any (n : Int) (s : ByteArray) (bm bn : Nat) (w : World) (hm : w.heap[bm]? = some (.cells #[mixV bn] 96 (0, 0))) (hb : w.heap[bn]? = some (.cells #[.int .i64 n] 3 (0, 0))) (hne : bm ≠ bn) (hn : hOk n) (hs : s.size ≤ maxLen) :
    Calls Tryd.prog 70 #[.string s, .pointer (some ⟨bm, 0, none⟩)] w fun e w' => e = .returned (.tuple #[]) ∧ w'.heap[bn]? = some (.cells #[.int .i64 (mixT n (bs s))] 3 (0, 0)) ∧ w.grownBy w' (some bn) := by
  unfold maxLen at hs
  have HN := Lib.hid hn
  have HM := Lib.hid hm
  have HB0 := Lib.hid hb
  clear hm hb
  go_enter Tryd.func70, Tryd.ntmps70
  go_wp2
  go_loopw [6] (fun i wr => ∃ k : Nat, k ≤ s.size ∧ i = .int .i64 k ∧ wr.heap[bn]? = some (.cells #[.int .i64 (mixB n ((bs s).take k))] 3 (0, 0)) ∧ w.grownBy wr (some bn)) (fun i _ => s.size - (intOf i).toNat)
  case atStart => exact ⟨0, Nat.zero_le _, rfl, by rw [List.take_zero]; exact HB0.out, World.grownBy.refl w _⟩
  case round =>
    obtain ⟨k, hk, rfl, hcell, hgw⟩ := hrel
    have cM := cell_of_one (keep_blk HM.out hgw hne)
    have HG := Lib.hid hgw
    by_cases hlt : k < s.size
    · have hb := mixB_take (n := n) (l := bs s) (k := k) hlt
      have hok := mixB_ok (l := (bs s).take k) HN.out
      have HB := Lib.hid hb
      generalize mixB n ((bs s).take k) = m at HB hok hcell
      have HC := Lib.hid hcell
      have hc0 : 0 ≤ (s[k].toNat : Int) ∧ (s[k].toNat : Int) ≤ 1000 := by have := UInt8.toNat_lt s[k]; omega
      have hwc : IntKind.i64.wrap (s[k].toNat : Int) = (s[k].toNat : Int) := IntWalk.i64_in _ (by omega)
      clear hb hcell hgw
      go_wp2
      go_region_law (go_simp
                     go_at_call 69
                     refine (imix_any m _ bn _ (by exact HC.out) hok hc0).mono ?_
                     rintro e w2 ⟨rfl, hc2, hg2⟩)
      all_goals go_wp2
      all_goals go_roundw
      all_goals first
        | exact ⟨k + 1, by omega, by go_num, by rw [HB.out]; exact hc2, grown_tr (grown_drew' HG.out) hg2⟩
        | (simp [intOf]; omega)
    · have ek : (bs s).take k = bs s := List.take_of_length_le (by rw [bs_length]; omega)
      rw [ek] at hcell
      have hok := mixB_ok (l := bs s) HN.out
      have HC := Lib.hid hcell
      clear hcell hgw
      go_wp2_with fail
      refine (imix_any _ _ bn _ HC.out hok (by omega)).mono ?_
      rintro e w2 ⟨rfl, hc2, hg2⟩
      go_wp2
      go_end0
      exact ⟨rfl, hc2, grown_tr HG.out hg2⟩
set_option maxHeartbeats 1600000 in
theorem iHashOf_any {lo hi : Nat} (v : Value) (L : List Stm) (w : World) (hv : SlR w lo hi 5 eSt v L) (hhi : hi ≤ w.heap.size) (hst : ∀ s ∈ L, szSt s ≤ 16777216) (hok : OkW w) :
    Calls Tryd.prog 32 #[v] w fun e w' => e = .returned (.int .i64 (fHash L)) ∧ Gr w w' := by
  have hv1 := iValidBody_any v L w hv hhi hst hok
  obtain ⟨a, c, rfl, hc1, hc2, h3⟩ := hv
  unfold maxLen at hc2
  unfold fHash
  have hmf : ∀ (fn : Fn) (first cap : Array Value) (w : World), (Instr.makeFunc fn first cap).run Tryd.prog w = .ok (.func fn first cap) w := fun _ _ _ _ => rfl
  cases hb : okBody L
  · rw [hb] at hv1
    go_enter Tryd.func32, Tryd.ntmps32
    go_wp2_with (go_at_call 50; refine hv1.mono ?_; rintro e w1 ⟨rfl, hb1⟩)
    go_ret
    exact ⟨rfl, hb1⟩
  · rw [hb] at hv1
    have hsm := okBody_small hb
    have HS := Lib.hid hsm
    have HT := Lib.hid hst
    clear hb hsm hst
    go_enter Tryd.func32, Tryd.ntmps32
    go_wp2_with fail
    refine hv1.mono ?_
    rintro e w1 ⟨rfl, hb1⟩
    have hs1 := hb1.size
    have hN0 : ((w1.alloc (.cells #[.int .i64 1] 3)).alloc (.cells #[mixV w1.heap.size] 96)).heap[w1.heap.size]? = some (.cells #[.int .i64 1] 3 (0, 0)) := by
      rw [Below.heap_alloc _ _ _ (by simp)]; exact heap_alloc_new w1 _
    have hM0 : ((w1.alloc (.cells #[.int .i64 1] 3)).alloc (.cells #[mixV w1.heap.size] 96)).heap[w1.heap.size + 1]? = some (.cells #[mixV w1.heap.size] 96 (0, 0)) :=
      heap_alloc2_new w1 _ _
    have hG0 : Gr w ((w1.alloc (.cells #[.int .i64 1] 3)).alloc (.cells #[mixV w1.heap.size] 96)) := (hb1.alloc hs1 _).alloc (by simp; omega) _
    have HN0 := Lib.hid hN0
    have HM0 := Lib.hid hM0
    clear hN0 hM0
    go_wp2

    go_loopw [15] (fun i wr => ∃ k : Nat, k ≤ L.length ∧ i = .int .i64 k ∧ wr.heap[w1.heap.size]? = some (.cells #[.int .i64 (hashP (L.take k))] 3 (0, 0)) ∧ wr.heap[w1.heap.size + 1]? = some (.cells #[mixV w1.heap.size] 96 (0, 0)) ∧ Gr w wr) (fun i _ => L.length - (intOf i).toNat)
    case atStart => exact ⟨0, Nat.zero_le _, rfl, HN0.out, HM0.out, hG0⟩
    case round =>
      obtain ⟨k, hk, rfl, hN, hM, hgr⟩ := hrel
      have hgs := hgr.size
      have hlM := lt_of_block hM
      have cN := cell_of_one hN
      have cM := cell_of_one hM
      by_cases hlt : k < L.length
      · obtain ⟨b, o, rfl, hbb, hc⟩ := h3 k hlt
        obtain ⟨x, hx⟩ : ∃ x, x = L[k] := ⟨_, rfl⟩
        obtain ⟨c0, c1, c2, c3, c4⟩ := cells_stm (w := wr) (b := b) (o := o) (k := k) (x := x) (fun j u hu => (hgr.cell (p := ⟨b, o + k * 5 + j, none⟩) (Nat.lt_of_lt_of_le hbb.2 hhi)).trans (hc j u (by rw [← hx]; exact hu)))
        have hh := hashP_take hlt
        have hsz := HT.out _ (List.getElem_mem hlt)
        have hsx := HS.out _ (List.getElem_mem hlt)
        have hn0 := hashP_ok (L := L.take k) (fun s hs => HS.out s (List.mem_of_mem_take hs))
        rw [← hx] at hh hsz hsx
        have HH := Lib.hid hh
        generalize hashP (L.take k) = n at HH hn0 hN cN
        obtain ⟨hk0, hk1, hk2⟩ := hsx
        unfold szSt at hsz
        have hm1 : x.mod.size ≤ maxLen := by unfold maxLen; omega
        have hm2 : x.name.size ≤ maxLen := by unfold maxLen; omega
        have hn1 := mixP_ok hn0 hk0.1
        have hn2 := mixP_ok hn1 hk1.1
        have hn3 := mixP_ok hn2 hk2.1
        have hn4 := mixT_ok (l := bs x.mod) hn3
        have hx0 := heap_alloc_new wr (.cells #[.int .i64 x.kind, .string x.mod, .int .i64 x.level, .string x.name, .int .i64 x.value] 99)
        have hN1 := (Below.heap_alloc wr (.cells #[.int .i64 x.kind, .string x.mod, .int .i64 x.level, .string x.name, .int .i64 x.value] 99) w1.heap.size (by omega)).trans hN
        have hM1 := (Below.heap_alloc wr (.cells #[.int .i64 x.kind, .string x.mod, .int .i64 x.level, .string x.name, .int .i64 x.value] 99) (w1.heap.size + 1) (by omega)).trans hM
        have cM1 := cell_of_one hM1
        have hG1 : Gr w (wr.alloc (.cells #[.int .i64 x.kind, .string x.mod, .int .i64 x.level, .string x.name, .int .i64 x.value] 99)) := hgr.alloc hgs _
        have hne : w1.heap.size + 1 ≠ w1.heap.size := by omega
        have hxne : wr.heap.size ≠ w1.heap.size := by omega
        have HX0 := Lib.hid hx0
        have HN1 := Lib.hid hN1
        have HM1 := Lib.hid hM1
        clear hc h3 hx hh hsz hN hM cN cM hx0 hN1 hM1
        go_wp2_with fail
        refine (imix_any _ _ w1.heap.size _ HN1.out hn0 hk0).mono ?_
        rintro e w2 ⟨rfl, hN2, hg2⟩
        have hM2 := keep_blk HM1.out hg2 hne
        have hX2 := keep_blk HX0.out hg2 hxne
        have cM2 := cell_of_one hM2
        obtain ⟨_, _, d2, _, _⟩ := stm_cells hX2
        go_wp2_with fail
        refine (imix_any _ _ w1.heap.size _ hN2 hn1 hk1).mono ?_
        rintro e w3 ⟨rfl, hN3, hg3⟩
        have hM3 := keep_blk hM2 hg3 hne
        have hX3 := keep_blk hX2 hg3 hxne
        have cM3 := cell_of_one hM3
        obtain ⟨_, _, _, _, d3⟩ := stm_cells hX3
        go_wp2_with fail
        refine (imix_any _ _ w1.heap.size _ hN3 hn2 hk2).mono ?_
        rintro e w4 ⟨rfl, hN4, hg4⟩
        have hM4 := keep_blk hM3 hg4 hne
        have hX4 := keep_blk hX3 hg4 hxne
        obtain ⟨_, d4, _, _, _⟩ := stm_cells hX4
        go_wp2_with fail
        refine (itext_any _ _ (w1.heap.size + 1) w1.heap.size _ hM4 hN4 hne hn3 hm1).mono ?_
        rintro e w5 ⟨rfl, hN5, hg5⟩
        have hM5 := keep_blk hM4 hg5 hne
        have hX5 := keep_blk hX4 hg5 hxne
        obtain ⟨_, _, _, d5, _⟩ := stm_cells hX5
        go_wp2_with fail
        refine (itext_any _ _ (w1.heap.size + 1) w1.heap.size _ hM5 hN5 hne hn4 hm2).mono ?_
        rintro e w6 ⟨rfl, hN6, hg6⟩
        have hM6 := keep_blk hM5 hg6 hne
        go_wp2
        go_roundw
        case rel =>
          refine ⟨k + 1, by omega, by go_num, by rw [HH.out]; exact hN6, hM6, ?_⟩
          exact hG1.grown (grown_tr (grown_tr (grown_tr (grown_tr hg2 hg3) hg4) hg5) hg6) (by simp; omega) (fun b hb => by injection hb with hb; omega)
        case measure => simp [intOf]; omega
      · have ek : L.take k = L := List.take_of_length_le (by omega)
        rw [ek] at cN
        go_wp2
        go_ret
        exact ⟨rfl, hgr⟩
end Go.Proofs.YteccopgnlbphbaaDoor
