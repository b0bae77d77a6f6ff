/-
  Walks over slices of strings: their size, their copy; names joined of parts.
-/
import Derived.Test.YtomndnlpogikdabDoorNamesF
import Derived.Test.YtomndnlpogikdabDoorMark
namespace Imp
open Go Go.RowKit
def totS : List ByteArray → Nat
  | [] => 0
  | s :: r => s.size + totS r
theorem totS_snoc : ∀ (l : List ByteArray) (s : ByteArray), totS (l ++ [s]) = totS l + s.size
  | [], s => by simp [totS]
  | x :: l, s => by rw [List.cons_append, totS, totS_snoc l s, totS]; omega
theorem totS_take {l : List ByteArray} {k : Nat} (h : k < l.length) : totS (l.take (k + 1)) = totS (l.take k) + l[k].size := by
  rw [List.take_succ_eq_append_getElem h, totS_snoc]
theorem totS_mem : ∀ {l : List ByteArray} {s : ByteArray}, s ∈ l → s.size ≤ totS l
  | x :: l, s, h => by
    rw [List.mem_cons] at h
    rw [totS]
    rcases h with rfl | h
    · omega
    · have := totS_mem h; omega
theorem jn_tot : ∀ l : List ByteArray, (jn (l.map bs)).length ≤ l.length + totS l
  | [] => by simp [jn]
  | [x] => by simp [jn, totS]
  | x :: y :: l => by
    have ih := jn_tot (y :: l)
    rw [List.map_cons, jn_cons (by simp), List.length_append, List.length_cons, bs_length, totS, List.length_cons]
    omega
def fJoin (P : List (List UInt8)) : List UInt8 := if P.all vPart && vName (jn P) then jn P else []
end Imp
namespace Go.Proofs.YtomndnlpogikdabDoor
open Go Go.RowKit Imp
set_option linter.unusedVariables false

theorem slr_eL {w : World} {lo hi : Nat} {v : Value} {L : List ByteArray} (h : SlR w lo hi 1 eS v L) : SlR w lo hi 1 eL v (L.map bs) := by
  obtain ⟨a, c, rfl, h1, h2, h3⟩ := h
  refine ⟨a, c, by rw [List.length_map], by rw [List.length_map]; exact h1, h2, fun i hi => ?_⟩
  rw [List.length_map] at hi
  obtain ⟨b, o, e, hb, hc⟩ := h3 i hi
  refine ⟨b, o, e, hb, fun j u hu => hc j u ?_⟩
  rw [List.getElem_map, eL, mk_bs] at hu
  exact hu

theorem szStringS_any {lo hi : Nat} (v : Value) (L : List ByteArray) (left : Int) (w : World) (hv : SlR w lo hi 1 eS v L) (hs : ∀ s ∈ L, s.size ≤ maxLen) (h0 : 0 ≤ left) (h1 : left ≤ 1048576) :
    Calls Tryd.prog 48 #[v, .int .i64 left] w fun e w' => ∃ r : Int, e = .returned (.int .i64 r) ∧ (0 ≤ r → r + L.length + totS L = left) ∧ r ≤ left ∧ w = w' := by
  obtain ⟨a, c, rfl, hc1, hc2, h3⟩ := hv
  unfold maxLen at hc2
  have hw1 : IntKind.i64.wrap (left - (L.length : Int)) = left - (L.length : Int) := IntWalk.i64_in _ (by omega)
  by_cases hneg : left - (L.length : Int) < 0
  · go_enter Tryd.func48, Tryd.ntmps48
    go_wp2
    go_ret
    exact ⟨-1, rfl, by omega, by omega, rfl⟩
  · go_enter Tryd.func48, Tryd.ntmps48
    go_wp2
    go_loop [1, 5] (fun l i => ∃ k : Nat, ∃ r : Int, k ≤ L.length ∧ i = .int .i64 k ∧ l = .int .i64 r ∧ 0 ≤ r ∧ r + L.length + totS (L.take k) = left) (fun _ i => L.length - (intOf i).toNat)
    case atStart => exact ⟨0, _, Nat.zero_le _, rfl, rfl, by omega, by simp [totS]⟩
    case round =>
      obtain ⟨k, r, hk, rfl, rfl, hr0, hr⟩ := hrel
      have HR := Lib.hid hr
      have hrl : r ≤ 1048576 := by omega
      clear hr
      by_cases hlt : k < L.length
      · obtain ⟨b, o, rfl, _, hc⟩ := h3 k hlt
        obtain ⟨x, hx⟩ : ∃ x, x = L[k] := ⟨_, rfl⟩
        have c0 : w.cell? ⟨b, o + k, none⟩ = some (.string x) := by rw [hx]; have := hc 0 _ rfl; simpa using this
        have hxs : x.size ≤ 9223372036854775807 := by rw [hx]; exact hs _ (List.getElem_mem hlt)
        have ht := totS_take hlt
        rw [← hx] at ht
        have HT := Lib.hid ht
        have hw2 : IntKind.i64.wrap (r - (x.size : Int)) = r - (x.size : Int) := IntWalk.i64_in _ (by omega)
        clear hc h3 hx ht hs
        by_cases hneg2 : r - (x.size : Int) < 0
        · go_wp2
          go_ret
          exact ⟨-1, rfl, by omega, by omega, rfl⟩
        · go_wp2
          go_round
          case rel => exact ⟨k + 1, _, by omega, by go_num, rfl, by omega, by have := HR.out; rw [HT.out]; omega⟩
          case measure => simp [intOf]; omega
      · go_wp2
        go_ret
        have := HR.out
        rw [List.take_of_length_le (by omega)] at this
        exact ⟨r, rfl, fun _ => this, by omega, rfl⟩
theorem toStringS_info : (Tryd.prog.info? 9).map (fun i => (i.zero, i.size, i.bytes)) = some (some (.string ByteArray.empty), 1, 16) := by kernel_rfl
theorem toStringS_any {lo hi : Nat} (v : Value) (L : List ByteArray) (w : World) (hv : SlR w lo hi 1 eS v L) (hhi : hi ≤ w.heap.size) (hn : L.length ≤ 1048576) :
    Calls Tryd.prog 49 #[v] w fun e w' => ∃ u, e = .returned u ∧ SlR w' w.heap.size w'.heap.size 1 eS u L ∧ Below w.heap.size w w' := by
  have hv0 := hv
  obtain ⟨a, c, rfl, h1, h2, h3⟩ := hv
  unfold maxLen at h2
  have hmk := run_make_row' (P := Tryd.prog) 42 9 (.string ByteArray.empty) 16 Tryd.underlying42 toStringS_info rfl .i64 .i64 L.length (by omega) (by omega)
  go_enter Tryd.func49, Tryd.ntmps49
  go_wp2
  go_loopw [4] (fun i wr => ∃ k : Nat, k ≤ L.length ∧ i = .int .i64 k ∧ wr.rowIs w.heap.size 9 L.length (fun j => if j < k then .string (L.getD j ByteArray.empty) else .string ByteArray.empty) ∧ Below w.heap.size w wr)
    (fun i _ => L.length - (intOf i).toNat)
  case atStart => exact ⟨0, Nat.zero_le _, rfl, (World.rowIs_made w _ _ _).congr (fun j _ => by simp), (Below.refl _ _).alloc (Nat.le_refl _) _⟩
  case round =>
    obtain ⟨k, hk, rfl, hrow, hbel⟩ := hrel
    have HR := Lib.hid hrow
    clear hmk
    by_cases hlt : k < L.length
    · obtain ⟨b, o, rfl, hb, hc⟩ := h3 k hlt
      obtain ⟨x, hx⟩ : ∃ x, x = L[k] := ⟨_, rfl⟩
      have c0 : wr.cell? ⟨b, o + k, none⟩ = some (.string x) := (hbel.cell (p := ⟨b, o + k, none⟩) (Nat.lt_of_lt_of_le hb.2 hhi)).trans (by rw [hx]; have := hc 0 _ rfl; simpa using this)
      have cB := hrow.cell hlt
      have fB := hrow.frozen k
      have hset := hrow.set k (.string x)
      have HS := Lib.hid hset
      have HX := Lib.hid hx
      clear hc h3 hrow hset hx
      go_wp2
      go_roundw
      case rel =>
        refine ⟨k + 1, by omega, by go_num, HS.out.congr (fun j hj => ?_), hbel.setCell (Nat.le_refl _) _⟩
        by_cases e : j = k
        · subst e; simp [HX.out, List.getElem?_eq_getElem hlt]
        · simp only [if_neg e]
          by_cases h : j < k
          · rw [if_pos h, if_pos (by omega)]
          · rw [if_neg h, if_neg (by omega)]
      case measure => simp [intOf]; omega
    · go_wp2
      go_ret
      have hkl : k = L.length := by omega
      subst hkl
      refine ⟨_, rfl, ⟨_, _, rfl, Nat.le_refl _, by unfold maxLen; omega, fun i hi => ⟨w.heap.size, 0, rfl, ⟨Nat.le_refl _, HR.out.lt⟩, fun j u hu => ?_⟩⟩, hbel⟩
      have hj : j < 1 := (List.getElem?_eq_some_iff.1 hu).1
      obtain rfl : j = 0 := by omega
      have := HR.out.cell hi
      simp [eS] at hu
      subst hu
      simpa [hi] using this
end Go.Proofs.YtomndnlpogikdabDoor
