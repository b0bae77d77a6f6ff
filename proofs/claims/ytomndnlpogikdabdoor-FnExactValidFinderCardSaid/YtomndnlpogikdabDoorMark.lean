/-
  Marks: the text that a number gives, and walks that write and read marks in a slice of strings; slices of strings compared.
-/
import Derived.Test.YtomndnlpogikdabDoorNamesB
import Derived.Laws.IdiomStrings
namespace Imp
open Go
/-- The decimal digits of a number, none for zero. -/
def dig (k : Nat) : List UInt8 := if _h : k = 0 then [] else dig (k / 10) ++ [UInt8.ofNat (48 + k % 10)]
termination_by k
decreasing_by omega
theorem dig_zero : dig 0 = [] := by rw [dig]; simp
theorem dig_pos {k : Nat} (h : 0 < k) : dig k = dig (k / 10) ++ [UInt8.ofNat (48 + k % 10)] := by
  rw [dig, dif_neg (by omega)]
def mText (k : Nat) : ByteArray := mk (109 :: dig k)
theorem digit_toNat (k : Nat) : (((UInt8.ofNat (48 + k % 10)).toNat : Nat) : Int) = 48 + (k : Int) % 10 := by
  rw [UInt8.toNat_ofNat']
  omega
end Imp
namespace Go.Proofs.YtomndnlpogikdabDoor
open Go Go.RowKit Imp
set_option linter.unusedVariables false


theorem slr_eS {w : World} {lo hi : Nat} {v : Value} {L : List (List UInt8)} (h : SlR w lo hi 1 eL v L) : SlR w lo hi 1 eS v (L.map mk) := by
  obtain ⟨a, c, rfl, h1, h2, h3⟩ := h
  refine ⟨a, c, by rw [List.length_map], by rw [List.length_map]; exact h1, h2, fun i hi => ?_⟩
  obtain ⟨b, o, e, hb, hc⟩ := h3 i (by rw [List.length_map] at hi; exact hi)
  exact ⟨b, o, e, hb, fun j u hu => hc j u (by rw [List.getElem_map] at hu; exact hu)⟩
theorem own_eS {w : World} {base : Nat} {v : Value} {L : List (List UInt8)} {e : TypeId} (h : Own w base e 1 eL v L) : Own w base e 1 eS v (L.map mk) := by
  unfold Own at h ⊢
  rw [List.length_map, List.flatMap_map]; exact h

theorem eqStringS_any {lo hi lo' hi' : Nat} (v u : Value) (L M : List ByteArray) (w : World) (hv : SlR w lo hi 1 eS v L) (hu : SlR w lo' hi' 1 eS u M) :
    Calls Tryd.prog 52 #[v, u] w fun e w' => e = .returned (.bool (decide (L = M))) ∧ ∃ n, w' = w.drewN n := by
  obtain ⟨a, c, rfl, h1, h2, h3⟩ := hv
  obtain ⟨a', c', rfl, h1', h2', h3'⟩ := hu
  unfold maxLen at h2 h2'
  by_cases hl : L.length = M.length
  · have hl0 : ((L.length : Int) != (M.length : Int)) = false := by simp [hl]
    have HL := Lib.hid hl
    go_enter Tryd.func52, Tryd.ntmps52
    go_wp2
    go_loopw [5] (fun i wr => ∃ k n : Nat, k ≤ L.length ∧ i = .int .i64 k ∧ wr = w.drewN n ∧ L.take k = M.take k) (fun i _ => L.length - (intOf i).toNat)
    case atStart => exact ⟨0, 0, Nat.zero_le _, rfl, rfl, by simp⟩
    case round =>
      obtain ⟨k, n, hk, rfl, rfl, hall⟩ := hrel
      have H := Lib.hid hall
      clear hall
      by_cases hlt : k < L.length
      · obtain ⟨b, o, rfl, _, hc⟩ := h3 k hlt
        obtain ⟨b', o', rfl, _, hc'⟩ := h3' k (by omega)
        have hlm : k < M.length := by omega
        obtain ⟨x, hx⟩ : ∃ x, x = L[k] := ⟨_, rfl⟩
        obtain ⟨y, hy⟩ : ∃ y, y = M[k] := ⟨_, rfl⟩
        have c0 : w.cell? ⟨b, o + k * 1 + 0, none⟩ = some (.string x) := hc 0 _ (by rw [hx]; rfl)
        have c0' : w.cell? ⟨b', o' + k * 1 + 0, none⟩ = some (.string y) := hc' 0 _ (by rw [hy]; rfl)
        have HX := Lib.hid hx
        have HY := Lib.hid hy
        clear hc hc' h3 h3' hx hy
        simp only [Nat.mul_one, Nat.add_zero] at c0 c0'
        by_cases he : x = y
        · have h0 : (x.toList == y.toList) = true := by rw [he]; exact beq_self_eq_true _
          have h00 : (x.toList != y.toList) = false := by rw [he]; simp
          have HE := Lib.hid he
          clear he
          go_wp2
          go_quiet (fail)
          go_wp2
          go_roundw
          case rel => exact ⟨k + 1, _, by omega, by go_num, rfl, take_eq_succ hlt hlm H.out (by rw [← HX.out, ← HY.out]; exact HE.out)⟩
          case measure => simp [intOf]; omega
        · have h0 : (x.toList == y.toList) = false := by rw [beq_toList]; exact decide_eq_false (fun e => he (by rw [← mk_bs x, ← mk_bs y, e]))
          have h00 : (x.toList != y.toList) = true := by rw [bne, h0]; rfl
          have HE := Lib.hid he
          clear he
          go_wp2
          go_quiet (fail)
          go_wp2
          go_ret
          exact ⟨ret_bool (decide_eq_false (ne_at hlt hlm (by rw [← HX.out, ← HY.out]; exact HE.out))).symm, dd _ _ _⟩
      · go_wp2
        go_ret
        exact ⟨ret_bool (decide_eq_true (eq_of_take HL.out (by omega) H.out)).symm, _, rfl⟩
  · have hl0 : ((L.length : Int) != (M.length : Int)) = true := by rw [bne_iff_ne]; omega
    go_enter Tryd.func52, Tryd.ntmps52
    go_wp2
    go_ret
    exact ⟨ret_bool (decide_eq_false (ne_len hl)).symm, 0, rfl⟩

def marksS (k n : Nat) : List ByteArray := (List.range n).map fun i => mText (k + i)
theorem marksS_length (k n : Nat) : (marksS k n).length = n := by simp [marksS]
theorem marksS_get (k n i : Nat) (h : i < (marksS k n).length) : (marksS k n)[i] = mText (k + i) := by simp [marksS]

/-- A slice that the call made, as a row by its index: what a store into it needs. -/
theorem own_row {α : Type} {enc : α → List Value} {w : World} {base e : Nat} {a : Option Addr} {n c : Nat} {L : List α} (h : Own w base e 1 enc (.slice a n c) L) (hn : 0 < n) :
    ∃ g, ∃ cur : Nat → Value, a = some ⟨g, 0, none⟩ ∧ base ≤ g ∧ n ≤ c ∧ c ≤ maxLen ∧ n = L.length ∧ w.rowIs g e c (fun j => cur j) := by
  have h0 := h
  rcases h.2 with ⟨hv, h0⟩ | ⟨g, cap, cur, hv, hb, hg, h1, h2, h3, h4⟩
  · injection hv with _ e2 _
    omega
  · injection hv with e1 e2 e3
    subst e1; subst e3
    exact ⟨g, fun j => (cur[j]?).getD (.bool false), rfl, hb, by omega, h2, e2, ⟨cur, hg, by simpa using h3, fun i hi => by simp only []; rw [Array.getElem?_eq_getElem (show i < cur.size by omega), Option.getD_some]⟩⟩
theorem own_of_rowIs {α : Type} {enc : α → List Value} {w : World} {base e g n c : Nat} {L : List α} {f : Nat → Value} (h : w.rowIs g e c f) (hb : base ≤ g) (h1 : n ≤ c) (h2 : c ≤ maxLen) (hn : n = L.length) (hk : ∀ x ∈ L, (enc x).length = 1)
    (hf : ∀ i (h : i < L.length), enc L[i] = [f i]) : Own w base e 1 enc (.slice (some ⟨g, 0, none⟩) n c) L := by
  obtain ⟨cur, hg, hs, hc⟩ := h
  subst hn
  have hlen := flatMap_len (enc := enc) (k := 1) L hk
  refine ⟨by rw [hlen], .inr ⟨g, c, cur, rfl, hb, hg, h1, h2, by omega, ?_⟩⟩
  rw [Nat.mul_one]
  apply List.ext_getElem
  · rw [List.length_take, hlen]; simp; omega
  · intro i hi1 hi2
    have hi : i < L.length := by rw [hlen] at hi2; omega
    have hx := flatMap_get (enc := enc) (k := 1) hk hi (j := 0) (u := f i) (by rw [hf i hi]; rfl)
    rw [Nat.mul_one, Nat.add_zero, List.getElem?_eq_getElem hi2] at hx
    have hy := hc i (by omega)
    rw [List.getElem_take, Option.some.inj hx]
    obtain ⟨h', e'⟩ := Array.getElem?_eq_some_iff.1 hy
    rw [← e']; simp

theorem grown_mark {w wr w2 : World} {g : Nat} (h : w.grownBy wr (some g)) (k : Gr wr w2) (o : Nat) (u : Value) : w.grownBy (w2.setCell ⟨g, o, none⟩ u) (some g) :=
  ⟨k.os.trans h.os, k.tape.trans h.tape, k.output.trans h.output, by rw [show (w2.setCell ⟨g, o, none⟩ u).heap.size = w2.heap.size by simp [World.setCell]]; exact Nat.le_trans h.size k.size,
    fun b hb hne => by rw [Below.heap_setCell w2 _ _ b (by intro e; apply hne; rw [e]), k.block b (Nat.lt_of_lt_of_le hb h.size)]; exact h.block b hb hne⟩
end Go.Proofs.YtomndnlpogikdabDoor
