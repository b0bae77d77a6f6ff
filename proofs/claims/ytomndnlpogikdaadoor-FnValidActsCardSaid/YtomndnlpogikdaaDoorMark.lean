/-
  Marks: the text that a number gives, and walks that write and read marks in a slice of strings; slices of strings compared.
-/
import Derived.Test.YtomndnlpogikdaaDoorNamesB
import Derived.Laws.IdiomStrings
namespace Imp
open Go
/-- The decimal digits of a number, none for zero. -/
def dig (k : Nat) : List UInt8 := if _h : k = 0 then [] else dig (k / 10) ++ [UInt8.ofNat (48 + k % 10)]
termination_by k
decreasing_by omega
theorem dig_zero : dig 0 = [] := by rw [dig]; simp
theorem dig_pos {k : Nat} (h : 0 < k) : dig k = dig (k / 10) ++ [UInt8.ofNat (48 + k % 10)] := by
  rw [dig, dif_neg (by omega)]
def mText (k : Nat) : ByteArray := mk (109 :: dig k)
theorem digit_toNat (k : Nat) : (((UInt8.ofNat (48 + k % 10)).toNat : Nat) : Int) = 48 + (k : Int) % 10 := by
  rw [UInt8.toNat_ofNat']
  omega
end Imp
namespace Go.Proofs.YtomndnlpogikdaaDoor
open Go Go.RowKit Imp
set_option linter.unusedVariables false

theorem run_digit (k : Nat) (w : World) :
    (convert 51 9 (.slice (some ⟨w.heap.size, 0, none⟩) 1 1)).run Tryd.prog (w.alloc (.cells #[.int .u8 (48 + (k : Int) % 10)] 5)) = .ok (.string (mk [UInt8.ofNat (48 + k % 10)])) (w.alloc (.cells #[.int .u8 (48 + (k : Int) % 10)] 5)) := by
  refine run_convert_bytes_back (P := Tryd.prog) (w.alloc (.cells #[.int .u8 (48 + (k : Int) % 10)] 5)) 51 9 5 ⟨w.heap.size, 0, none⟩ 1 [UInt8.ofNat (48 + k % 10)] Tryd.underlying51 Tryd.underlying5 Tryd.underlying9 (fun j hj => ?_)
  obtain rfl : j = 0 := by simp at hj; omega
  have := cell_of_row (w.alloc (.cells #[.int .u8 (48 + (k : Int) % 10)] 5)) w.heap.size 0 #[.int .u8 (48 + (k : Int) % 10)] 5 (0, 0) (heap_alloc_new w _)
  show World.cell? _ ⟨w.heap.size, 0, none⟩ = _
  rw [this]
  simp only [List.getElem_cons_zero, digit_toNat]
  rfl

set_option maxRecDepth 10000 in
theorem markText_any (k0 : Nat) (w : World) (h0 : 1 ≤ k0) (hk : k0 ≤ 42949670) :
    Calls Tryd.prog 61 #[.int .i64 k0] w fun e w' => e = .returned (.string (mText k0)) ∧ Gr w w' := by
  go_enter Tryd.func61, Tryd.ntmps61
  go_wp2
  go_loopw [0, 3] (fun n o wr => ∃ k : Nat, ∃ x : ByteArray, n = .int .i64 k ∧ o = .string x ∧ k ≤ k0 ∧ x.size + k ≤ k0 ∧ dig k ++ bs x = dig k0 ∧ Gr w wr) (fun n o _ => (intOf n).toNat)
  case atStart => exact ⟨k0, ByteArray.empty, rfl, rfl, Nat.le_refl _, by simp, by simp [bs], Gr.rfl' _⟩
  case round =>
    obtain ⟨k, x, rfl, rfl, hkk, hxs, hdg, hgr⟩ := hrel
    have HD := Lib.hid hdg
    clear hdg
    by_cases hlt : 0 < (k : Int)
    · have hcb := run_digit k wr
      obtain ⟨d, hd⟩ : ∃ d, d = mk [UInt8.ofNat (48 + k % 10)] := ⟨_, rfl⟩
      rw [← hd] at hcb
      have hds : d.size = 1 := by rw [hd, mk_size]; rfl
      have HX := Lib.hid hd
      clear hd
      go_wp2
      go_roundw
      case rel =>
        refine ⟨k / 10, d ++ x, by go_num, rfl, by omega, by rw [ByteArray.size_append]; omega, ?_, hgr.alloc hgr.size _⟩
        rw [← HD.out, dig_pos (by omega : 0 < k), bs_append, HX.out, bs_mk]
        simp
      case measure => simp [intOf]; omega
    · have hk0 : k = 0 := by omega
      subst hk0
      go_wp2
      go_ret
      exact ⟨ret_str (by rw [mText]; exact (eq_mk (by have := HD.out; rw [dig_zero] at this; rw [bs_append, ← this]; rfl))), hgr⟩

theorem slr_eS {w : World} {lo hi : Nat} {v : Value} {L : List (List UInt8)} (h : SlR w lo hi 1 eL v L) : SlR w lo hi 1 eS v (L.map mk) := by
  obtain ⟨a, c, rfl, h1, h2, h3⟩ := h
  refine ⟨a, c, by rw [List.length_map], by rw [List.length_map]; exact h1, h2, fun i hi => ?_⟩
  obtain ⟨b, o, e, hb, hc⟩ := h3 i (by rw [List.length_map] at hi; exact hi)
  exact ⟨b, o, e, hb, fun j u hu => hc j u (by rw [List.getElem_map] at hu; exact hu)⟩
theorem own_eS {w : World} {base : Nat} {v : Value} {L : List (List UInt8)} {e : TypeId} (h : Own w base e 1 eL v L) : Own w base e 1 eS v (L.map mk) := by
  unfold Own at h ⊢
  rw [List.length_map, List.flatMap_map]; exact h


def marksS (k n : Nat) : List ByteArray := (List.range n).map fun i => mText (k + i)
theorem marksS_length (k n : Nat) : (marksS k n).length = n := by simp [marksS]
theorem marksS_get (k n i : Nat) (h : i < (marksS k n).length) : (marksS k n)[i] = mText (k + i) := by simp [marksS]

/-- A slice that the call made, as a row by its index: what a store into it needs. -/
theorem own_row {α : Type} {enc : α → List Value} {w : World} {base e : Nat} {a : Option Addr} {n c : Nat} {L : List α} (h : Own w base e 1 enc (.slice a n c) L) (hn : 0 < n) :
    ∃ g, ∃ cur : Nat → Value, a = some ⟨g, 0, none⟩ ∧ base ≤ g ∧ n ≤ c ∧ c ≤ maxLen ∧ n = L.length ∧ w.rowIs g e c (fun j => cur j) := by
  have h0 := h
  rcases h.2 with ⟨hv, h0⟩ | ⟨g, cap, cur, hv, hb, hg, h1, h2, h3, h4⟩
  · injection hv with _ e2 _
    omega
  · injection hv with e1 e2 e3
    subst e1; subst e3
    exact ⟨g, fun j => (cur[j]?).getD (.bool false), rfl, hb, by omega, h2, e2, ⟨cur, hg, by simpa using h3, fun i hi => by simp only []; rw [Array.getElem?_eq_getElem (show i < cur.size by omega), Option.getD_some]⟩⟩
theorem own_of_rowIs {α : Type} {enc : α → List Value} {w : World} {base e g n c : Nat} {L : List α} {f : Nat → Value} (h : w.rowIs g e c f) (hb : base ≤ g) (h1 : n ≤ c) (h2 : c ≤ maxLen) (hn : n = L.length) (hk : ∀ x ∈ L, (enc x).length = 1)
    (hf : ∀ i (h : i < L.length), enc L[i] = [f i]) : Own w base e 1 enc (.slice (some ⟨g, 0, none⟩) n c) L := by
  obtain ⟨cur, hg, hs, hc⟩ := h
  subst hn
  have hlen := flatMap_len (enc := enc) (k := 1) L hk
  refine ⟨by rw [hlen], .inr ⟨g, c, cur, rfl, hb, hg, h1, h2, by omega, ?_⟩⟩
  rw [Nat.mul_one]
  apply List.ext_getElem
  · rw [List.length_take, hlen]; simp; omega
  · intro i hi1 hi2
    have hi : i < L.length := by rw [hlen] at hi2; omega
    have hx := flatMap_get (enc := enc) (k := 1) hk hi (j := 0) (u := f i) (by rw [hf i hi]; rfl)
    rw [Nat.mul_one, Nat.add_zero, List.getElem?_eq_getElem hi2] at hx
    have hy := hc i (by omega)
    rw [List.getElem_take, Option.some.inj hx]
    obtain ⟨h', e'⟩ := Array.getElem?_eq_some_iff.1 hy
    rw [← e']; simp

theorem grown_mark {w wr w2 : World} {g : Nat} (h : w.grownBy wr (some g)) (k : Gr wr w2) (o : Nat) (u : Value) : w.grownBy (w2.setCell ⟨g, o, none⟩ u) (some g) :=
  ⟨k.os.trans h.os, k.tape.trans h.tape, k.output.trans h.output, by rw [show (w2.setCell ⟨g, o, none⟩ u).heap.size = w2.heap.size by simp [World.setCell]]; exact Nat.le_trans h.size k.size,
    fun b hb hne => by rw [Below.heap_setCell w2 _ _ b (by intro e; apply hne; rw [e]), k.block b (Nat.lt_of_lt_of_le hb h.size)]; exact h.block b hb hne⟩
end Go.Proofs.YtomndnlpogikdaaDoor
