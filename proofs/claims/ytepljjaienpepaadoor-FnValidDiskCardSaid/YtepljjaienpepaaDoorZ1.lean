/-
  Words for memory: a slice that reads as a list of rows of cells; worlds that have only grown.
-/
import Derived.WalkKit
import Derived.Lib.Hide
import Derived.Deep.QuietTactic
import Derived.BigQuiet
import Derived.Deep.OwnRows
import Derived.WalkSmall
import Derived.Test.YtepljjaienpepaaDoorRows
import Derived.Maps.AppendAt
import Derived.Deep.AppendLies
import Derived.Deep.RegionLaw
import Derived.RegionTactic
import Derived.OwnWalk
import Derived.Lib.Split
import Derived.Lib.SplitLaws
import Derived.Lib.LastIndexByte
import Derived.Lib.Strings
import Derived.Shelf.Strings.Search1
import Derived.Shelf.Strings.Search2
import Derived.Shelf.Strings.Search3
import Derived.Shelf.Strings.Count
import Derived.Shelf.LaysM
import Derived.Shelf.Strings.Shaped
import Derived.Shelf.Strings.Split
import Derived.Shelf.Strings.SplitShaped
import Derived.Test.YtepljjaienpepaaDoorProg
namespace Imp
open Go Go.RowKit

/-- The blocks from 'lo' up to 'hi' are as they were. -/
def Same (lo hi : Nat) (w w' : World) : Prop := ∀ b, lo ≤ b → b < hi → w'.heap[b]? = w.heap[b]?

theorem Same.of_below {B lo hi : Nat} {w w' : World} (h : Below B w w') (hB : hi ≤ B) : Same lo hi w w' := fun b _ h2 => h.block b (by omega)
theorem Same.of_grown {g : Option Nat} {lo hi : Nat} {w w' : World} (h : w.grownBy w' g) (hB : hi ≤ w.heap.size) (hg : ∀ k, g = some k → k < lo ∨ hi ≤ k) : Same lo hi w w' :=
  fun b h1 h2 => h.block b (by omega) (fun e => by have := hg b e.symm; omega)
theorem Same.drewN (lo hi : Nat) (w : World) (n : Nat) : Same lo hi w (w.drewN n) := fun _ _ _ => rfl
theorem Same.alloc {lo hi : Nat} (w : World) (o : Obj) (h : hi ≤ w.heap.size) : Same lo hi w (w.alloc o) := fun b _ h2 => Below.heap_alloc w o b (by omega)
theorem Same.trans {lo hi : Nat} {a b c : World} (h : Same lo hi a b) (k : Same lo hi b c) : Same lo hi a c := fun i h1 h2 => (k i h1 h2).trans (h i h1 h2)
theorem Same.refl (lo hi : Nat) (w : World) : Same lo hi w w := fun _ _ _ => rfl
theorem Same.cell {lo hi : Nat} {w w' : World} (h : Same lo hi w w') {b o : Nat} (h1 : lo ≤ b) (h2 : b < hi) : w'.cell? ⟨b, o, none⟩ = w.cell? ⟨b, o, none⟩ :=
  World.cell?_of_block (w := w) (a := ⟨b, o, none⟩) (h b h1 h2)

/-- The slice value 'v' reads as the list 'L', each element as the 'k' cells 'enc x'; its cells lie in blocks from 'lo' up to 'hi'. -/
def SlR (w : World) (lo hi : Nat) {α : Type} (k : Nat) (enc : α → List Value) (v : Value) (L : List α) : Prop :=
  ∃ a c, v = .slice a L.length c ∧ L.length ≤ c ∧ c ≤ maxLen ∧
    ∀ i (h : i < L.length), ∃ b o, a = some ⟨b, o, none⟩ ∧ (lo ≤ b ∧ b < hi) ∧ ∀ j u, (enc L[i])[j]? = some u → w.cell? ⟨b, o + i * k + j, none⟩ = some u

section
variable {α : Type} {w w' : World} {lo hi k : Nat} {enc : α → List Value} {v : Value} {L : List α}

theorem SlR.nil (lo hi : Nat) (c : Nat) (hc : c ≤ maxLen) (a : Option Addr) : SlR w lo hi k enc (.slice a 0 c) [] := ⟨a, c, rfl, Nat.zero_le _, hc, fun i h => absurd h (by simp)⟩

theorem SlR.keep (h : SlR w lo hi k enc v L) (hs : Same lo hi w w') : SlR w' lo hi k enc v L := by
  obtain ⟨a, c, rfl, h1, h2, h3⟩ := h
  refine ⟨a, c, rfl, h1, h2, fun i hi => ?_⟩
  obtain ⟨b, o, rfl, hlt, hc⟩ := h3 i hi
  exact ⟨b, o, rfl, hlt, fun j u hu => (hs.cell hlt.1 hlt.2).trans (hc j u hu)⟩

theorem SlR.mono (h : SlR w lo hi k enc v L) {lo' hi' : Nat} (h1 : lo' ≤ lo) (h2 : hi ≤ hi') : SlR w lo' hi' k enc v L := by
  obtain ⟨a, c, rfl, e1, e2, h3⟩ := h
  refine ⟨a, c, rfl, e1, e2, fun i hi => ?_⟩
  obtain ⟨b, o, rfl, hlt, hc⟩ := h3 i hi
  exact ⟨b, o, rfl, ⟨by omega, by omega⟩, hc⟩

theorem SlR.below {B : Nat} (h : SlR w lo hi k enc v L) (hb : Below B w w') (hB : hi ≤ B) : SlR w' lo hi k enc v L := h.keep (Same.of_below hb hB)
theorem SlR.drewN (h : SlR w lo hi k enc v L) (n : Nat) : SlR (w.drewN n) lo hi k enc v L := h.keep (Same.drewN _ _ _ _)

theorem SlR.len_le (h : SlR w lo hi k enc v L) : L.length ≤ maxLen := by
  obtain ⟨a, c, _, h1, h2, _⟩ := h
  omega

/-- The form of the value. -/
theorem SlR.form (h : SlR w lo hi k enc v L) : ∃ a c, v = .slice a L.length c ∧ L.length ≤ c ∧ c ≤ 9223372036854775807 := by
  obtain ⟨a, c, h0, h1, h2, _⟩ := h
  exact ⟨a, c, h0, h1, by unfold maxLen at h2; exact h2⟩

/-- A cut at the end. -/
theorem SlR.take {a : Option Addr} {n c : Nat} (h : SlR w lo hi k enc (.slice a n c) L) (m : Nat) (hm : m ≤ L.length) : SlR w lo hi k enc (.slice a m c) (L.take m) := by
  obtain ⟨a', c', e, h1, h2, h3⟩ := h
  injection e with e1 e2 e3
  subst e1; subst e3
  have hl : (L.take m).length = m := by rw [List.length_take]; omega
  refine ⟨a, c, by rw [hl], by omega, h2, fun i hi => ?_⟩
  rw [hl] at hi
  obtain ⟨b, o, e, hb, hc⟩ := h3 i (by omega)
  exact ⟨b, o, e, hb, fun j u hu => hc j u (by simpa using hu)⟩

/-- A cut at the beginning. -/
theorem SlR.drop {a : Option Addr} {n c : Nat} (h : SlR w lo hi k enc (.slice a n c) L) (m : Nat) (hm : m ≤ L.length) :
    SlR w lo hi k enc (.slice (if c = m then a else a.map (·.add (m * k))) (L.length - m) (c - m)) (L.drop m) := by
  obtain ⟨a', c', e, h1, h2, h3⟩ := h
  injection e with e1 e2 e3
  subst e1; subst e3
  have hl : (L.drop m).length = L.length - m := by rw [List.length_drop]
  refine ⟨_, c - m, by rw [hl], by omega, by omega, fun i hi => ?_⟩
  rw [hl] at hi
  obtain ⟨b, o, rfl, hb, hc⟩ := h3 (m + i) (by omega)
  refine ⟨b, o + m * k, ?_, hb, fun j u hu => ?_⟩
  · rw [if_neg (by omega)]
    simp only [Option.map_some, Option.some.injEq]
    unfold Addr.add
    split
    · rename_i h0; rw [h0]; rfl
    · rfl
  · have := hc j u (by simpa using hu)
    rw [Nat.add_mul, ← Nat.add_assoc] at this
    exact this

/-- A cut behind an element, its address as the walk spells it. -/
theorem SlR.drop1 {a : Option Addr} {n c : Nat} (h : SlR w lo hi k enc (.slice a n c) L) (i : Nat) (_ : i < L.length) :
    SlR w lo hi k enc (.slice (if c = i + 1 then a else a.map (fun x => { block := x.block, off := x.off + (i + 1) * k })) (L.length - (i + 1)) (c - (i + 1))) (L.drop (i + 1)) := by
  have h' := h
  obtain ⟨a', c', e, h1, h2, h3⟩ := h
  injection e with e1 e2 e3
  subst e1; subst e3
  have hl : (L.drop (i + 1)).length = L.length - (i + 1) := by rw [List.length_drop]
  refine ⟨_, c - (i + 1), by rw [hl], by omega, by omega, fun j hj => ?_⟩
  rw [hl] at hj
  obtain ⟨b, o, rfl, hb, hc⟩ := h3 (i + 1 + j) (by omega)
  refine ⟨b, o + (i + 1) * k, ?_, hb, fun q u hu => ?_⟩
  · rw [if_neg (by omega)]; rfl
  · have := hc q u (by simpa using hu)
    rw [Nat.add_mul (i + 1) j, ← Nat.add_assoc] at this
    exact this

theorem flatMap_len {enc : α → List Value} {k : Nat} : ∀ M : List α, (∀ x ∈ M, (enc x).length = k) → (M.flatMap enc).length = M.length * k
  | [], _ => by simp
  | x :: M, hM => by
    rw [List.flatMap_cons, List.length_append, hM x (by simp), flatMap_len M (fun y hy => hM y (by simp [hy])), List.length_cons, Nat.succ_mul]; omega

theorem flatMap_get {enc : α → List Value} {k : Nat} {L : List α} (hk : ∀ x ∈ L, (enc x).length = k) {i j : Nat} (hi : i < L.length) {u : Value} (hu : (enc L[i])[j]? = some u) : (L.flatMap enc)[i * k + j]? = some u := by
  have hj : j < (enc L[i]).length := (List.getElem?_eq_some_iff.1 hu).1
  have e0 : L = L.take i ++ L[i] :: L.drop (i + 1) := by rw [List.getElem_cons_drop, List.take_append_drop]
  have hl1 : ((L.take i).flatMap enc).length = i * k := by
    rw [flatMap_len _ (fun x hx => hk x (List.mem_of_mem_take hx)), List.length_take]; congr 1; omega
  rw [e0, List.flatMap_append, List.getElem?_append_right (by omega), hl1, List.flatMap_cons, List.getElem?_append_left (by omega)]
  rw [show i * k + j - i * k = j from by omega]; exact hu

/-- A row that the call itself made reads as the list. -/
theorem SlR.of_own {base : Nat} {e : TypeId} {n : Nat} {xs : List Value} (h : w.ownsRow base e k v n xs) (hn : n = L.length) (hk : ∀ x ∈ L, (enc x).length = k) (hx : xs = L.flatMap enc) : SlR w base w.heap.size k enc v L := by
  subst hx; subst hn
  rcases h.2 with ⟨rfl, h0⟩ | ⟨g, cap, cur, rfl, hb, hg, h1, h2, h3, h4⟩
  · have : L = [] := List.eq_nil_of_length_eq_zero h0
    subst this
    exact SlR.nil _ _ 0 (Nat.zero_le _) _
  · refine ⟨_, cap, rfl, h1, h2, fun i hi => ⟨g, 0, rfl, ⟨hb, (Array.getElem?_eq_some_iff.1 hg).1⟩, fun j u hu => ?_⟩⟩
    have hflat := flatMap_get hk hi hu
    rw [← h4] at hflat
    rw [List.getElem?_take] at hflat
    split at hflat
    · rw [cell_of_row w g (0 + i * k + j) cur e (0, 0) hg, Nat.zero_add]; simpa using hflat
    · cases hflat

/-- A block that the call made, known whole, reads as the list. -/
theorem SlR.of_block {g c : Nat} {cs : Array Value} {e : TypeId} {fr : Nat × Nat} (h : w.heap[g]? = some (.cells cs e fr)) (h1 : L.length ≤ c) (h2 : c ≤ maxLen) (hl : lo ≤ g) (hh : g < hi) (hk : ∀ x ∈ L, (enc x).length = k)
    (hcs : (cs.toList.take (L.length * k)) = L.flatMap enc) : SlR w lo hi k enc (.slice (some ⟨g, 0, none⟩) L.length c) L := by
  refine ⟨_, c, rfl, h1, h2, fun i hi => ⟨g, 0, rfl, ⟨hl, hh⟩, fun j u hu => ?_⟩⟩
  have hflat := flatMap_get hk hi hu
  rw [← hcs, List.getElem?_take] at hflat
  split at hflat
  · rw [cell_of_row w g (0 + i * k + j) cs e fr h, Nat.zero_add]; simpa using hflat
  · cases hflat
end

/-- Encodings of one cell. -/
def eI (n : Int) : List Value := [.int .i64 n]
def eB (n : UInt8) : List Value := [.int .u8 n.toNat]
def eS (s : ByteArray) : List Value := [.string s]

theorem dd (w : World) (n m : Nat) : ∃ k, (w.drewN n).drewN m = w.drewN k := ⟨n + m, by rw [World.drewN_drewN]⟩

/-! ### Calls in a region that draws: the callee only reads -/
theorem quiet_add {P : Program} {f : FuncId} {args : Array Value} {w : World} {a n : Nat} {v : Value}
    (h : Calls P f args (w.drewN (a + n)) fun e w' => e = .returned v ∧ ∃ m, w' = (w.drewN (a + n)).drewN m) :
    Calls P f args (w.drewN (a + n)) fun e w'' => e = .returned v ∧ ∃ m, w'' = w.drewN (a + m) :=
  h.mono fun _ _ ⟨he, m, hm⟩ => ⟨he, n + m, by rw [hm, World.drewN_drewN, Nat.add_assoc]⟩
theorem quiet_add_left {P : Program} {f : FuncId} {args : Array Value} {w : World} {a n : Nat} {v : Value}
    (h : Calls P f args (w.drewN (a + n)) fun e w' => e = .returned v ∧ w.drewN (a + n) = w') :
    Calls P f args (w.drewN (a + n)) fun e w'' => e = .returned v ∧ ∃ m, w'' = w.drewN (a + m) :=
  h.mono fun _ _ ⟨he, hm⟩ => ⟨he, n, hm.symm⟩
theorem quiet_left {P : Program} {f : FuncId} {args : Array Value} {w : World} {n : Nat} {v : Value}
    (h : Calls P f args (w.drewN n) fun e w' => e = .returned v ∧ w.drewN n = w') : Calls P f args (w.drewN n) fun e w'' => e = .returned v ∧ ∃ m, w'' = w.drewN m :=
  h.mono fun _ _ ⟨he, hm⟩ => ⟨he, n, hm.symm⟩

end Imp

/-
  Plain facts on names as lists of bytes: no program in sight.
-/
namespace Imp

/-- The bytes of a string. -/
abbrev bs (s : ByteArray) : List UInt8 := s.data.toList

theorem bs_length (s : ByteArray) : (bs s).length = s.size := rfl
theorem bs_get (s : ByteArray) (k : Nat) (h : k < s.size) : (bs s)[k]'h = s[k] := rfl

/-- A letter from a to z. -/
def letB (c : UInt8) : Bool := decide (97 ≤ c.toNat ∧ c.toNat ≤ 122)
theorem letB_yes {c : UInt8} (h1 : (97 : Int) ≤ (c.toNat : Int)) (h2 : (c.toNat : Int) ≤ 122) : letB c = true := decide_eq_true ⟨by omega, by omega⟩
theorem letB_low {c : UInt8} (h1 : (c.toNat : Int) < 97) : letB c = false := decide_eq_false (by omega)
theorem letB_high {c : UInt8} (h1 : 122 < (c.toNat : Int)) : letB c = false := decide_eq_false (by omega)

/-- A part of a name: one to three letters. -/
def vPart (l : List UInt8) : Bool := l.all letB && decide (1 ≤ l.length ∧ l.length ≤ 3)

theorem all_take_succ {α : Type} (p : α → Bool) (l : List α) (k : Nat) (h : k < l.length) : (l.take (k + 1)).all p = ((l.take k).all p && p l[k]) := by
  rw [List.take_succ_eq_append_getElem h, List.all_append]; simp

theorem all_of_take {α : Type} (p : α → Bool) (l : List α) (k : Nat) (h : l.length ≤ k) : (l.take k).all p = l.all p := by
  rw [List.take_of_length_le h]

theorem all_false_at {α : Type} (p : α → Bool) (l : List α) (k : Nat) (h : k < l.length) (hp : p l[k] = false) : l.all p = false := by
  rw [List.all_eq_false]; exact ⟨l[k], List.getElem_mem h, by simp [hp]⟩

theorem vPart_bad {l : List UInt8} (k : Nat) (h : k < l.length) (hp : letB l[k] = false) : vPart l = false := by
  unfold vPart; rw [all_false_at _ l k h hp]; rfl
theorem vPart_eq {l : List UInt8} (h : l.all letB = true) : vPart l = (decide ((1 : Int) ≤ (l.length : Int)) && decide ((l.length : Int) ≤ 3)) := by
  unfold vPart; rw [h, Bool.true_and, Bool.decide_and]
  congr 1 <;> rw [decide_eq_decide] <;> omega
theorem vPart_len {l : List UInt8} (h : ¬ (1 ≤ l.length ∧ l.length ≤ 3)) : vPart l = false := by
  unfold vPart; rw [decide_eq_false h]; simp

end Imp

/-
  Walks: within, inRange, ValidPart of both packages: what they return, for every argument.
-/
namespace Go.Proofs.YtepljjaienpepaaDoor
open Go Go.RowKit Imp

theorem ret_bool {a b : Bool} (h : a = b) : Ending.returned (.bool a) = .returned (.bool b) := by rw [h]

theorem within_any (n lo hi : Int) (w : World) :
    Calls Tryd.prog 15 #[.int .i64 n, .int .i64 lo, .int .i64 hi] w fun e w' => e = .returned (.bool (decide (lo ≤ n) && decide (n ≤ hi))) ∧ w = w' := by
  go_enter Tryd.func15, Tryd.ntmps15
  go_wp2
  · go_ret
    have h : lo ≤ n := by assumption
    exact ⟨ret_bool (by simp [h]), rfl⟩
  · go_ret
    have h : n < lo := by assumption
    exact ⟨ret_bool (by simp; omega), rfl⟩
theorem inRange_any (n lo hi : Int) (w : World) :
    Calls Tryd.prog 19 #[.int .i64 n, .int .i64 lo, .int .i64 hi] w fun e w' => e = .returned (.bool (decide (lo ≤ n) && decide (n ≤ hi))) ∧ w = w' := by
  go_enter Tryd.func19, Tryd.ntmps19
  go_wp2
  · go_ret
    have h : lo ≤ n := by assumption
    exact ⟨ret_bool (by simp [h]), rfl⟩
  · go_ret
    have h : n < lo := by assumption
    exact ⟨ret_bool (by simp; omega), rfl⟩
theorem iValidPart_any (s : ByteArray) (w : World) (hs : s.size ≤ maxLen) :
    Calls Tryd.prog 42 #[.string s] w fun e w' => e = .returned (.bool (vPart (bs s))) ∧ w = w' := by
  unfold maxLen at hs
  go_enter Tryd.func42, Tryd.ntmps42
  go_wp2
  go_loop [6] (fun i => ∃ k : Nat, k ≤ s.size ∧ i = .int .i64 k ∧ ((bs s).take k).all letB = true) (fun i => s.size - (intOf i).toNat)
  case atStart => exact ⟨0, Nat.zero_le _, rfl, by simp⟩
  case round =>
    obtain ⟨k, hk, rfl, hall⟩ := hrel
    have H := Lib.hid hall
    clear hall
    by_cases hlt : k < s.size
    · have hb := all_take_succ letB (bs s) k hlt
      have HB := Lib.hid hb
      clear hb
      by_cases h1 : (97 : Int) ≤ (s[k].toNat : Int)
      · by_cases h2 : (s[k].toNat : Int) ≤ 122
        · go_wp2
          go_round
          case rel => exact ⟨k + 1, by omega, by go_num, by rw [HB.out, H.out]; exact letB_yes h1 h2⟩
          case measure => simp [intOf]; omega
        · go_wp2
          go_ret
          exact ⟨ret_bool (vPart_bad k hlt (show letB s[k] = false from letB_high (by omega))).symm, rfl⟩
      · go_wp2
        go_ret
        exact ⟨ret_bool (vPart_bad k hlt (show letB s[k] = false from letB_low (by omega))).symm, rfl⟩
    · go_wp2_with (go_at_call 15; refine (within_any _ _ _ _).mono ?_; rintro e w' ⟨rfl, rfl⟩)
      go_ret
      exact ⟨ret_bool (vPart_eq (by rw [← all_of_take letB (bs s) k (by rw [bs_length]; omega)]; exact H.out)).symm, rfl⟩
theorem svalidPart_any (s : ByteArray) (w : World) (hs : s.size ≤ maxLen) :
    Calls Tryd.prog 48 #[.string s] w fun e w' => e = .returned (.bool (vPart (bs s))) ∧ w = w' := by
  unfold maxLen at hs
  by_cases hlen : 1 ≤ s.size ∧ s.size ≤ 3
  · have h1 : (decide ((1 : Int) ≤ (s.size : Int)) && decide ((s.size : Int) ≤ 3)) = true := by simp; omega
    go_enter Tryd.func48, Tryd.ntmps48
    go_wp2_with (go_at_call 19; refine (inRange_any _ _ _ _).mono ?_; rintro e w' ⟨rfl, rfl⟩)
    go_loop [3] (fun i => ∃ k : Nat, k ≤ s.size ∧ i = .int .i64 k ∧ ((bs s).take k).all letB = true) (fun i => s.size - (intOf i).toNat)
    case atStart => exact ⟨0, Nat.zero_le _, rfl, by simp⟩
    case round =>
      obtain ⟨k, hk, rfl, hall⟩ := hrel
      have H := Lib.hid hall
      clear hall
      by_cases hlt : k < s.size
      · have hb := all_take_succ letB (bs s) k hlt
        have HB := Lib.hid hb
        clear hb
        by_cases h1 : (97 : Int) ≤ (s[k].toNat : Int)
        · by_cases h2 : (s[k].toNat : Int) ≤ 122
          · go_wp2
            go_round
            case rel => exact ⟨k + 1, by omega, by go_num, by rw [HB.out, H.out]; exact letB_yes h1 h2⟩
            case measure => simp [intOf]; omega
          · go_wp2
            go_ret
            exact ⟨ret_bool (vPart_bad k hlt (show letB s[k] = false from letB_high (by omega))).symm, rfl⟩
        · go_wp2
          go_ret
          exact ⟨ret_bool (vPart_bad k hlt (show letB s[k] = false from letB_low (by omega))).symm, rfl⟩
      · go_wp2
        go_ret
        exact ⟨ret_bool (by rw [vPart_eq (by rw [← all_of_take letB (bs s) k (by rw [bs_length]; omega)]; exact H.out)]; simp; omega), rfl⟩
  · have h1 : (decide ((1 : Int) ≤ (s.size : Int)) && decide ((s.size : Int) ≤ 3)) = false := by simp; omega
    go_enter Tryd.func48, Tryd.ntmps48
    go_wp2_with (go_at_call 19; refine (inRange_any _ _ _ _).mono ?_; rintro e w' ⟨rfl, rfl⟩)
    go_ret
    exact ⟨ret_bool (vPart_len hlen).symm, rfl⟩
end Go.Proofs.YtepljjaienpepaaDoor

/-
  Appends onto a slice that the call itself made: one law for a source that reads as a list (nil let in), in a plain region and in one that draws.
-/
namespace Imp
open Go Go.RowKit

/-- What is known of a slice type 't' with elements of type 'e', 'k' cells and 'bytes' bytes each. -/
def TI (P : Program) (t e : TypeId) (k bytes : Nat) : Prop :=
  P.underlying t = some (.slice e) ∧ ∃ i z, P.info? e = some i ∧ i.zero = some z ∧ i.size = k ∧ i.bytes = bytes ∧ z.cells.size = k ∧ 0 < k

theorem TI.mk' {P : Program} {t e : TypeId} {k bytes : Nat} {z : Value} (h : P.underlying t = some (.slice e)) (hi : (P.info? e).map (fun i => (i.zero, i.size, i.bytes)) = some (some z, k, bytes)) (hz : z.cells.size = k) (hk : 0 < k) : TI P t e k bytes := by
  obtain ⟨i, h0, h1, h2, h3⟩ := info_parts hi
  exact ⟨h, i, z, h0, h1, h2, h3, hz, hk⟩

/-- 'v' is a slice that the call made: its cells are those of 'L'. -/
def Own (w : World) (base : Nat) {α : Type} (e : TypeId) (k : Nat) (enc : α → List Value) (v : Value) (L : List α) : Prop :=
  w.ownsRow base e k v L.length (L.flatMap enc)

section
variable {α : Type} {w w' : World} {base e k : Nat} {enc : α → List Value} {v : Value} {L : List α}

theorem Own.reads (h : Own w base e k enc v L) (hk : ∀ x ∈ L, (enc x).length = k) : SlR w base w.heap.size k enc v L := SlR.of_own h rfl hk rfl
theorem Own.nil (w : World) (base e k : Nat) (enc : α → List Value) : Own w base e k enc (.slice none 0 0) [] := World.ownsRow_nil w base e k
theorem Own.empty (w : World) (base e k : Nat) (enc : α → List Value) (h : base ≤ w.heap.size) : Own (w.alloc (.cells #[] e)) base e k enc (.slice (some ⟨w.heap.size, 0, none⟩) 0 0) [] :=
  World.ownsRow_made w #[] 0 h (Nat.zero_le _) (by simp)
theorem Own.alloc (h : Own w base e k enc v L) (o : Obj) : Own (w.alloc o) base e k enc v L := World.ownsRow.alloc h o
theorem Own.drewN (h : Own w base e k enc v L) (n : Nat) : Own (w.drewN n) base e k enc v L := h
theorem Own.block (h : Own w base e k enc v L) : ∀ b, v.ownBlock = some b → base ≤ b ∧ b < w.heap.size := World.ownsRow.lt h
theorem Own.keep (h : Own w base e k enc v L) (hs : ∀ b, v.ownBlock = some b → w'.heap[b]? = w.heap[b]?) : Own w' base e k enc v L := by
  refine ⟨h.1, ?_⟩
  rcases h.2 with hn | ⟨g, cap, cur, rfl, hb, hgg, rest⟩
  · exact .inl hn
  · exact .inr ⟨g, cap, cur, rfl, hb, (hs g rfl).trans hgg, rest⟩
theorem Own.mono {base' : Nat} (h : Own w base e k enc v L) (hb : base' ≤ base) : Own w base' e k enc v L := by
  refine ⟨h.1, ?_⟩
  rcases h.2 with hn | ⟨g, cap, cur, rfl, hg, rest⟩
  · exact .inl hn
  · exact .inr ⟨g, cap, cur, rfl, by omega, rest⟩
theorem Own.form (h : Own w base e k enc v L) : ∃ a c, v = .slice a L.length c ∧ L.length ≤ c ∧ c ≤ 9223372036854775807 := by
  rcases h.2 with ⟨rfl, h0⟩ | ⟨g, cap, cur, rfl, _, _, h1, h2, _⟩
  · exact ⟨none, 0, by rw [h0], by omega, by omega⟩
  · exact ⟨_, cap, rfl, h1, by unfold maxLen at h2; exact h2⟩

/-- A new slice of one element, as the translation lays it ahead of an append. -/
theorem SlR.one (w : World) (lo : Nat) (x : α) (e : TypeId) (hlo : lo ≤ w.heap.size) (hk : (enc x).length = k) : SlR (w.alloc (.cells (enc x).toArray e)) lo (w.heap.size + 1) k enc (.slice (some ⟨w.heap.size, 0, none⟩) 1 1) [x] := by
  refine SlR.of_block (L := [x]) (heap_alloc_new w _) (Nat.le_refl _) (by unfold maxLen; simp) hlo (by omega) (fun y hy => by simp at hy; subst hy; exact hk) ?_
  simp [List.take_of_length_le, hk]
end

section
variable {P : Program} {α : Type} {enc : α → List Value} (w : World)

theorem run_app {t ty e : TypeId} {k bytes base : Nat} (ti : TI P t e k bytes) {v : Value} {L M : List α} (hown : Own w base e k enc v L) {lo hi : Nat} {A : Option Addr} {m c : Nat}
    (hsrc : SlR w lo hi k enc (.slice A m c) M) (hk : ∀ x ∈ M, (enc x).length = k) (h1 : ∀ x ∈ M, ∀ u ∈ enc x, u.oneCell' = true)
    (h63 : L.length + M.length ≤ maxLen) (hbytes : (L.length + M.length) * bytes ≤ 140737488355328) (hbase : base ≤ w.heap.size) :
    ∃ v' w', (Builtin.append_ #[t, t] ty #[v, .slice A m c]).run P w = .ok v' w' ∧ Own w' base e k enc v' (L ++ M) ∧ w.grownBy w' v.ownBlock ∧ (v'.ownBlock = v.ownBlock ∨ v'.ownBlock = some w.heap.size) := by
  obtain ⟨ht, i, z, hi0, hz0, hz1, hz2, hz3, hz4⟩ := ti
  obtain ⟨a', c', e', s1, s2, s3⟩ := hsrc
  injection e' with e1 e2 e3
  subst e1; subst e2; subst e3
  have hnl : (M.flatMap enc).length = M.length * k := flatMap_len M hk
  have fin : ∀ v' w', w'.ownsRow base e k v' (L.length + M.length) (L.flatMap enc ++ M.flatMap enc) → Own w' base e k enc v' (L ++ M) := fun v' w' h => by
    unfold Own; rw [List.length_append, List.flatMap_append]; exact h
  rcases A with _ | ad
  · have hM : M = [] := by
      cases M with
      | nil => rfl
      | cons x M => obtain ⟨b, o, h, _⟩ := s3 0 (by simp); cases h
    subst hM
    refine ⟨v, w, ?_, by simpa using hown, World.grownBy.refl w _, .inl rfl⟩
    rcases hown.2 with ⟨rfl, _⟩ | ⟨g, cap, cur, rfl, _, _, hnc, _⟩
    · simp [Builtin.append_, run_underlying ht, Go.sizeOf, typeInfo, hi0, Builtin.lenOf, Builtin.firstCells]
    · simp [Builtin.append_, run_underlying ht, Go.sizeOf, typeInfo, hi0, Builtin.lenOf, Builtin.firstCells, hnc, storeCells]
  · have hcells : ∀ j u, (M.flatMap enc)[j]? = some u → w.cell? (ad.add j) = some u := by
      intro j u hu
      have hj : j < M.length * k := by rw [← hnl]; exact (List.getElem?_eq_some_iff.1 hu).1
      have hi : j / k < M.length := Nat.div_lt_of_lt_mul (by rw [Nat.mul_comm]; exact hj)
      have hmod : j % k < k := Nat.mod_lt _ hz4
      obtain ⟨b, o, h, _, hc⟩ := s3 (j / k) hi
      injection h with h
      subst h
      have hjk : j / k * k + j % k = j := by rw [Nat.mul_comm]; exact Nat.div_add_mod j k
      have hel : (enc M[j / k])[j % k]? = some u := by
        have hlt : j % k < (enc M[j / k]).length := by rw [hk _ (List.getElem_mem hi)]; exact hmod
        have h2 := flatMap_get hk hi (List.getElem?_eq_getElem hlt)
        rw [hjk, hu] at h2
        rw [List.getElem?_eq_getElem hlt]; exact h2.symm
      have h3 := hc (j % k) u hel
      rw [Nat.add_assoc, hjk] at h3
      unfold Addr.add
      split
      · rename_i h0; subst h0; simpa using h3
      · exact h3
    obtain ⟨v', w', hrun, h2, h3, _, h5⟩ := run_append_own_at (P := P) w base t ty e i z k bytes ht hi0 hz0 hz1 hz2 hz3 hz4 v _ _ hown ad M.length c (M.flatMap enc) hnl hcells
      (fun u hu => by obtain ⟨x, hx, hu⟩ := List.mem_flatMap.1 hu; exact h1 x hx u hu) h63 hbytes hbase
    exact ⟨v', w', hrun, fin _ _ h2, h3, h5⟩

theorem wp_app {o : Oper} {a : Act} {K : Act → World → Prop} {Q : Exit → Act → World → Prop} (s x : Operand) {t e : TypeId} {k bytes base : Nat} (ti : TI P t e k bytes)
    (ho : o.op = .call { callee := .builtin .append, args := #[s, x], argTypes := #[t, t] }) {v : Value} {L M : List α} (hs : a.eval s = v) (hown : Own w base e k enc v L) {lo hi : Nat} {A : Option Addr} {m c : Nat}
    (hx : a.eval x = .slice A m c) (hsrc : SlR w lo hi k enc (.slice A m c) M) (hk : ∀ x ∈ M, (enc x).length = k) (h1 : ∀ x ∈ M, ∀ u ∈ enc x, u.oneCell' = true)
    (h63 : L.length + M.length ≤ maxLen) (hbytes : (L.length + M.length) * bytes ≤ 140737488355328) (hbase : base ≤ w.heap.size)
    (h : ∀ v' w', Own w' base e k enc v' (L ++ M) → w.grownBy w' v.ownBlock → (v'.ownBlock = v.ownBlock ∨ v'.ownBlock = some w.heap.size) → K (a.put o.dst v') w') : o.wp P a w K Q := by
  obtain ⟨v', w', hrun, h2, h3, h4⟩ := run_app (ty := o.type) w ti hown hsrc hk h1 h63 hbytes hbase
  unfold Oper.wp execOp
  simp only [ho, resolve, invoke, builtin, Sem.run_bind, Sem.run_pure, Result.andThen_ok, List.map_toArray, List.map_cons, List.map_nil, hs, hx, hrun]
  exact h v' w' h2 h3 h4

theorem wpList_app {ops : Array Oper} {rest : List Oper} {o : Oper} {a : Act} {Q : Exit → Act → World → Prop} (hgd : o.guard = none) (s x : Operand) {t e : TypeId} {k bytes base : Nat} (ti : TI P t e k bytes)
    (ho : o.op = .call { callee := .builtin .append, args := #[s, x], argTypes := #[t, t] }) {v : Value} {L M : List α} (hs : a.eval s = v) (hown : Own w base e k enc v L) {lo hi : Nat} {A : Option Addr} {m c : Nat}
    (hx : a.eval x = .slice A m c) (hsrc : SlR w lo hi k enc (.slice A m c) M) (hk : ∀ x ∈ M, (enc x).length = k) (h1 : ∀ x ∈ M, ∀ u ∈ enc x, u.oneCell' = true)
    (h63 : L.length + M.length ≤ maxLen) (hbytes : (L.length + M.length) * bytes ≤ 140737488355328) (hbase : base ≤ w.heap.size)
    (h : ∀ v' w', Own w' base e k enc v' (L ++ M) → w.grownBy w' v.ownBlock → (v'.ownBlock = v.ownBlock ∨ v'.ownBlock = some w.heap.size) → wpList P ops Q rest (a.put o.dst v') w') : wpList P ops Q (o :: rest) a w :=
  wpList_plain hgd fun _ hK => wp_app w s x ti ho hs hown hx hsrc hk h1 h63 hbytes hbase fun v' w' h2 h3 h4 => hK _ _ (h v' w' h2 h3 h4)

theorem step_app {ops : Array Oper} {o : Oper} {a : Act} {K : Act → World → Prop} {Q : Exit → Act → World → Prop} {E : Prop} (hgd : o.guard = none) (s x : Operand) {t e : TypeId} {k bytes base : Nat} (ti : TI P t e k bytes)
    (ho : o.op = .call { callee := .builtin .append, args := #[s, x], argTypes := #[t, t] }) {v : Value} {L M : List α} (hs : a.eval s = v) (hown : Own w base e k enc v L) {lo hi : Nat} {A : Option Addr} {m c : Nat}
    (hx : a.eval x = .slice A m c) (hsrc : SlR w lo hi k enc (.slice A m c) M) (hk : ∀ x ∈ M, (enc x).length = k) (h1 : ∀ x ∈ M, ∀ u ∈ enc x, u.oneCell' = true)
    (h63 : L.length + M.length ≤ maxLen) (hbytes : (L.length + M.length) * bytes ≤ 140737488355328) (hbase : base ≤ w.heap.size)
    (h : ∀ v' w', Own w' base e k enc v' (L ++ M) → w.grownBy w' v.ownBlock → (v'.ownBlock = v.ownBlock ∨ v'.ownBlock = some w.heap.size) → K (a.put o.dst v') w') :
    if Region.wanted o (yielded ops a.tmps) = true then Oper.wp P o a w K Q else E := by
  have hw : Region.wanted o (yielded ops a.tmps) = true := by simp [Region.wanted, hgd]
  rw [if_pos hw]
  exact wp_app w s x ti ho hs hown hx hsrc hk h1 h63 hbytes hbase h
end
end Imp

/-
  Plain facts on lists: first index, prefixes, all indices.
-/
namespace Imp

theorem take_eq_succ {α : Type} {L M : List α} {k : Nat} (h1 : k < L.length) (h2 : k < M.length) (h : L.take k = M.take k) (e : L[k] = M[k]) : L.take (k + 1) = M.take (k + 1) := by
  rw [List.take_succ_eq_append_getElem h1, List.take_succ_eq_append_getElem h2, h, e]
theorem eq_of_take {α : Type} {L M : List α} {k : Nat} (hl : L.length = M.length) (h1 : L.length ≤ k) (h : L.take k = M.take k) : L = M := by
  rwa [List.take_of_length_le h1, List.take_of_length_le (by omega)] at h
theorem ne_at {α : Type} {L M : List α} {k : Nat} (h1 : k < L.length) (h2 : k < M.length) (e : L[k] ≠ M[k]) : L ≠ M := by
  rintro rfl; exact e rfl
theorem ne_len {α : Type} {L M : List α} (h : L.length ≠ M.length) : L ≠ M := by
  rintro rfl; exact h rfl

/-- The first index at which 'p' holds, -1 where there is none. -/
def ixFrom {α : Type} (p : α → Bool) : List α → Nat → Int
  | [], _ => -1
  | x :: t, k => if p x then (k : Int) else ixFrom p t (k + 1)
def ix {α : Type} (p : α → Bool) (L : List α) : Int := ixFrom p L 0

theorem ixFrom_none {α : Type} (p : α → Bool) : ∀ (L : List α) (n : Nat), L.any p = false → ixFrom p L n = -1
  | [], _, _ => rfl
  | x :: t, n, h => by
    rw [List.any_cons, Bool.or_eq_false_iff] at h
    rw [ixFrom, h.1, if_neg (by simp)]; exact ixFrom_none p t _ h.2
theorem ixFrom_hit {α : Type} (p : α → Bool) : ∀ (L : List α) (n k : Nat) (h : k < L.length), (L.take k).any p = false → p L[k] = true → ixFrom p L n = (n + k : Nat)
  | x :: t, n, 0, _, _, hp => by
    have hp' : p x = true := hp
    rw [ixFrom, hp']; rfl
  | x :: t, n, k + 1, h, hn, hp => by
    rw [List.take_succ_cons, List.any_cons, Bool.or_eq_false_iff] at hn
    rw [ixFrom, hn.1, if_neg (by simp)]
    rw [ixFrom_hit p t (n + 1) k (by simpa using h) hn.2 (by simpa using hp)]
    congr 1; omega
theorem ix_none {α : Type} {p : α → Bool} {L : List α} (h : L.any p = false) : ix p L = -1 := ixFrom_none p L 0 h
theorem ix_hit {α : Type} {p : α → Bool} {L : List α} {k : Nat} (h : k < L.length) (hn : (L.take k).any p = false) (hp : p L[k] = true) : ix p L = (k : Int) := by
  rw [ix, ixFrom_hit p L 0 k h hn hp]; simp
theorem ixFrom_range {α : Type} (p : α → Bool) : ∀ (L : List α) (n : Nat), (L.any p = true ∧ (n : Int) ≤ ixFrom p L n ∧ ixFrom p L n < (n : Int) + L.length) ∨ (L.any p = false ∧ ixFrom p L n = -1)
  | [], n => .inr ⟨rfl, rfl⟩
  | x :: t, n => by
    rw [ixFrom, List.any_cons]
    by_cases hx : p x = true
    · rw [if_pos hx]; left; refine ⟨by simp [hx], by omega, ?_⟩; simp only [List.length_cons]; omega
    · rw [if_neg hx]
      have hx' : p x = false := by simpa using hx
      rcases ixFrom_range p t (n + 1) with ⟨h1, h2, h3⟩ | ⟨h1, h2⟩
      · left; refine ⟨by simp [h1], by omega, ?_⟩; simp only [List.length_cons]; omega
      · right; exact ⟨by simp [hx', h1], h2⟩
theorem ix_range {α : Type} (p : α → Bool) (L : List α) : (L.any p = true ∧ 0 ≤ ix p L ∧ ix p L < L.length) ∨ (L.any p = false ∧ ix p L = -1) := by
  have := ixFrom_range p L 0
  unfold ix
  simpa using this
theorem ix_ge {α : Type} (p : α → Bool) (L : List α) : decide (0 ≤ ix p L) = L.any p := by
  rcases ix_range p L with ⟨h1, h2, _⟩ | ⟨h1, h2⟩
  · rw [h1]; exact decide_eq_true h2
  · rw [h1]; exact decide_eq_false (by omega)
theorem any_take_succ {α : Type} (p : α → Bool) (L : List α) (k : Nat) (h : k < L.length) : (L.take (k + 1)).any p = ((L.take k).any p || p L[k]) := by
  rw [List.take_succ_eq_append_getElem h, List.any_append]; simp

/-- 'p' holds of every index below 'n'. -/
def allTo (n : Nat) (p : Nat → Bool) : Bool := (List.range n).all p
theorem allTo_zero (p : Nat → Bool) : allTo 0 p = true := rfl
theorem allTo_succ (n : Nat) (p : Nat → Bool) : allTo (n + 1) p = (allTo n p && p n) := by
  unfold allTo; rw [List.range_succ, List.all_append]; simp
theorem allTo_iff {n : Nat} {p : Nat → Bool} : allTo n p = true ↔ ∀ i, i < n → p i = true := by
  unfold allTo; simp
theorem allTo_bad {n k : Nat} {p : Nat → Bool} (h : k < n) (hp : p k = false) : allTo n p = false := by
  cases e : allTo n p with
  | false => rfl
  | true => rw [allTo_iff.1 e k h] at hp; cases hp
theorem allTo_congr {n : Nat} {p q : Nat → Bool} (h : ∀ i, i < n → p i = q i) : allTo n p = allTo n q := by
  rw [Bool.eq_iff_iff, allTo_iff, allTo_iff]
  exact ⟨fun k i hi => (h i hi) ▸ k i hi, fun k i hi => (h i hi) ▸ k i hi⟩

/-! ### Search paths -/
def rootB (n : Int) : Bool := decide (0 ≤ n) && decide (n ≤ 2)
def pathAt (L : List Int) (i : Nat) : Bool := match L[i]? with
  | some n => rootB n && !((L.take i).any (· == n))
  | none => false
def vPath (L : List Int) : Bool := allTo L.length (pathAt L)
theorem pathAt_eq {L : List Int} {i : Nat} (h : i < L.length) : pathAt L i = (rootB L[i] && !((L.take i).any (· == L[i]))) := by
  unfold pathAt; rw [List.getElem?_eq_getElem h]
theorem vPath_iff {L : List Int} : vPath L = true ↔ L.Nodup ∧ ∀ x ∈ L, rootB x = true := by
  unfold vPath
  rw [allTo_iff]
  constructor
  · intro h
    constructor
    · rw [List.nodup_iff_pairwise_ne, List.pairwise_iff_getElem]
      intro i j hi hj hij e
      have := h j hj
      rw [pathAt_eq hj, Bool.and_eq_true, Bool.not_eq_true', List.any_eq_false] at this
      exact this.2 L[i] (by rw [List.mem_take_iff_getElem]; exact ⟨i, by omega, rfl⟩) (by simp [e])
    · intro x hx
      obtain ⟨i, hi, rfl⟩ := List.getElem_of_mem hx
      have := h i hi
      rw [pathAt_eq hi, Bool.and_eq_true] at this
      exact this.1
  · rintro ⟨h1, h2⟩ i hi
    rw [pathAt_eq hi, h2 _ (List.getElem_mem hi), Bool.true_and, Bool.not_eq_true', List.any_eq_false]
    intro x hx e
    rw [List.mem_take_iff_getElem] at hx
    obtain ⟨j, hj, rfl⟩ := hx
    rw [List.nodup_iff_pairwise_ne, List.pairwise_iff_getElem] at h1
    exact h1 j i (by omega) hi (by omega) (by simpa using e)
theorem sub_without {α : Type} (L : List α) (k : Nat) : (L.take k ++ L.drop (k + 1)).Sublist L := by
  conv => rhs; rw [← List.take_append_drop k L]
  exact List.Sublist.append (List.Sublist.refl _) (by rw [← List.drop_drop]; exact List.drop_sublist _ _)
theorem vPath_without {L : List Int} (h : vPath L = true) (k : Nat) (_ : k < L.length) : vPath (L.take k ++ L.drop (k + 1)) = true := by
  rw [vPath_iff] at h ⊢
  exact ⟨h.1.sublist (sub_without L k), fun x hx => h.2 x ((sub_without L k).subset hx)⟩
end Imp

/-
  Plain facts on names: a text falls apart at its dots; names, parents, children, packages. No program in sight.
-/
namespace Imp
open Go

/-- A string of these bytes. -/
abbrev mk (l : List UInt8) : ByteArray := ⟨l.toArray⟩
theorem bs_mk (l : List UInt8) : bs (mk l) = l := rfl
theorem mk_bs (s : ByteArray) : mk (bs s) = s := Lib.mk_data s
theorem mk_size (l : List UInt8) : (mk l).size = l.length := by rw [Lib.size_eq]
theorem eq_mk {s : ByteArray} {l : List UInt8} (h : bs s = l) : s = mk l := by subst h; exact (mk_bs s).symm
theorem mk_inj {a b : List UInt8} (h : mk a = mk b) : a = b := by have := congrArg bs h; rwa [bs_mk, bs_mk] at this
theorem extract_mk (l : List UInt8) (a b : Nat) : (mk l).extract a b = mk ((l.drop a).take (b - a)) := by rw [Lib.extract_eq]
theorem append_mk (a b : List UInt8) : mk a ++ mk b = mk (a ++ b) := eq_mk (by simp [bs])

/-! ### Dots -/
def spl : List UInt8 → List (List UInt8)
  | [] => [[]]
  | c :: t => if c == 46 then [] :: spl t else (c :: (spl t).headD []) :: (spl t).tail

theorem spl_ne : ∀ l, spl l ≠ []
  | [] => by simp [spl]
  | c :: t => by unfold spl; split <;> simp

theorem spl_nodot : ∀ {p : List UInt8}, (46 : UInt8) ∉ p → spl p = [p]
  | [], _ => rfl
  | c :: t, h => by
    rw [List.mem_cons, not_or] at h
    have hc : (c == 46) = false := beq_eq_false_iff_ne.2 (fun e => h.1 e.symm)
    rw [spl, hc, spl_nodot h.2]; rfl

/-- A text around a dot: the pieces of both sides. -/
theorem spl_append : ∀ (a b : List UInt8), spl (a ++ 46 :: b) = spl a ++ spl b
  | [], b => by simp [spl]
  | c :: t, b => by
    rw [List.cons_append, spl, spl, spl_append t b]
    have := spl_ne t
    cases e : spl t with
    | nil => exact absurd e this
    | cons x r => split <;> simp

theorem spl_dot {p : List UInt8} (h : (46 : UInt8) ∉ p) (r : List UInt8) : spl (p ++ 46 :: r) = p :: spl r := by
  rw [spl_append, spl_nodot h]; rfl

theorem spl_parts : ∀ (l : List UInt8), ∀ p ∈ spl l, (46 : UInt8) ∉ p
  | [], p, h => by simp [spl] at h; subst h; simp
  | c :: t, p, h => by
    have ih := spl_parts t
    unfold spl at h
    split at h
    · rw [List.mem_cons] at h
      rcases h with rfl | h
      · simp
      · exact ih p h
    · rename_i hc
      rw [List.mem_cons] at h
      rcases h with rfl | h
      · rw [List.mem_cons, not_or]
        refine ⟨fun e => hc (by simp [← e]), ?_⟩
        cases e : spl t with
        | nil => simp
        | cons x r => simpa using ih x (by rw [e]; simp)
      · exact ih p (List.mem_of_mem_tail h)

/-- Pieces with dots between them. -/
def jn : List (List UInt8) → List UInt8
  | [] => []
  | [p] => p
  | p :: q :: r => p ++ 46 :: jn (q :: r)

theorem jn_cons {p : List UInt8} {r : List (List UInt8)} (h : r ≠ []) : jn (p :: r) = p ++ 46 :: jn r := by
  cases r with
  | nil => exact absurd rfl h
  | cons q r => rfl

theorem spl_jn : ∀ {ps : List (List UInt8)}, ps ≠ [] → (∀ p ∈ ps, (46 : UInt8) ∉ p) → spl (jn ps) = ps
  | [p], _, h => spl_nodot (h p (by simp))
  | p :: q :: r, _, h => by
    rw [jn_cons (by simp), spl_dot (h p (by simp)), spl_jn (by simp) (fun x hx => h x (by simp only [List.mem_cons] at hx ⊢; exact .inr hx))]

theorem jn_head (c : UInt8) (x : List UInt8) (r : List (List UInt8)) : jn ((c :: x) :: r) = c :: jn (x :: r) := by
  cases r <;> rfl

theorem jn_spl : ∀ (l : List UInt8), jn (spl l) = l
  | [] => rfl
  | c :: t => by
    have ih := jn_spl t
    unfold spl
    split
    · rename_i hc
      rw [jn_cons (spl_ne t), ih]
      simp at hc; simp [hc]
    · cases e : spl t with
      | nil => exact absurd e (spl_ne t)
      | cons x r => rw [e] at ih; simp only [List.headD_cons, List.tail_cons]; rw [jn_head, ih]

theorem jn_snoc : ∀ (ps : List (List UInt8)) (p : List UInt8), ps ≠ [] → jn (ps ++ [p]) = jn ps ++ 46 :: p
  | [q], p, _ => rfl
  | q :: q' :: r, p, _ => by
    have e := jn_snoc (q' :: r) p (by simp)
    have e2 : jn (q :: q' :: r) = q ++ 46 :: jn (q' :: r) := rfl
    rw [List.cons_append, jn_cons (show (q' :: r) ++ [p] ≠ [] by simp), e, e2, List.append_assoc]; rfl

theorem spl_length_le (l : List UInt8) : (spl l).length ≤ l.length + 1 := by
  induction l with
  | nil => simp [spl]
  | cons c t ih =>
    unfold spl
    split
    · simp; omega
    · simp only [List.length_cons, List.length_tail]; omega

/-! ### Names -/
def vName (l : List UInt8) : Bool := (spl l).all vPart && decide ((spl l).length ≤ 3)
def vPkg (l : List UInt8) : Bool := l.isEmpty || vName l
def fParts (l : List UInt8) : List (List UInt8) := if vName l then spl l else []
def lastP (l : List UInt8) : List UInt8 := (spl l).getLastD []
def fLast (l : List UInt8) : List UInt8 := if vName l then lastP l else []
def parentP (l : List UInt8) : List UInt8 := jn (spl l).dropLast
def fParent (l : List UInt8) : List UInt8 := if vName l then parentP l else []
def childP (p s : List UInt8) : List UInt8 := if p.isEmpty then s else p ++ 46 :: s
def fChild (p s : List UInt8) : List UInt8 := if vPkg p && vPart s && vName (childP p s) then childP p s else []
def underP (s p : List UInt8) : Bool := p.isEmpty || decide (s = p) || (p ++ [46]).isPrefixOf s
def fUnder (s p : List UInt8) : Bool := vName s && vPkg p && underP s p

theorem vPart_noDot {l : List UInt8} (h : vPart l = true) : (46 : UInt8) ∉ l := by
  intro hm
  unfold vPart at h
  rw [Bool.and_eq_true, List.all_eq_true] at h
  have := h.1 46 hm
  simp [letB] at this
theorem vPart_ne {l : List UInt8} (h : vPart l = true) : l ≠ [] := by
  rintro rfl; simp [vPart] at h
theorem vPart_length {l : List UInt8} (h : vPart l = true) : 1 ≤ l.length ∧ l.length ≤ 3 := by
  unfold vPart at h
  rw [Bool.and_eq_true] at h
  exact of_decide_eq_true h.2
theorem vName_length {l : List UInt8} (h : vName l = true) : l.length ≤ 11 := by
  unfold vName at h
  rw [Bool.and_eq_true, List.all_eq_true] at h
  have h3 : (spl l).length ≤ 3 := of_decide_eq_true h.2
  have hp : ∀ p ∈ spl l, p.length ≤ 3 := fun p hp => (vPart_length (h.1 p hp)).2
  rw [← jn_spl l]
  match spl l, h3, hp with
  | [], _, _ => simp [jn]
  | [a], _, hp => have := hp a (by simp); simp [jn]; omega
  | [a, b], _, hp => have := hp a (by simp); have := hp b (by simp); simp [jn]; omega
  | [a, b, c], _, hp => have := hp a (by simp); have := hp b (by simp); have := hp c (by simp); simp [jn]; omega
  | _ :: _ :: _ :: _ :: _, h, _ => simp at h
theorem vName_ne {l : List UInt8} (h : vName l = true) : l ≠ [] := by
  rintro rfl; simp [vName, spl, vPart] at h
theorem vPkg_length {l : List UInt8} (h : vPkg l = true) : l.length ≤ 11 := by
  unfold vPkg at h
  rw [Bool.or_eq_true] at h
  rcases h with h | h
  · rw [List.isEmpty_iff] at h; subst h; simp
  · exact vName_length h

/-! ### strings.Split at a dot is the text's pieces -/
theorem occ_one (s : List UInt8) (c : UInt8) (j : Nat) : Lib.occAt s [c] j = (s[j]? == some c) := by
  unfold Lib.occAt
  have h : s[j]? = (s.drop j)[0]? := by rw [List.getElem?_drop, Nat.add_zero]
  rw [h]
  cases s.drop j with
  | nil => simp
  | cons x r =>
    show (c == x && [].isPrefixOf r) = (some x == some c)
    rw [Bool.eq_iff_iff, beq_iff_eq, List.isPrefixOf, Bool.and_true, beq_iff_eq]
    exact ⟨fun h => by rw [h], fun h => (Option.some.inj h).symm⟩

theorem splitK_spl : ∀ (n : Nat) (l : List UInt8), l.length ≤ n → Lib.splitK [46] 0 (Lib.count l [46]) l = spl l
  | n, l, hn => by
    rcases Lib.index_spec l [46] with ⟨h, hno⟩ | ⟨i, h, hi, hocc, hno⟩
    · rw [Lib.count_miss h]
      have hnd : (46 : UInt8) ∉ l := by
        intro hm
        obtain ⟨j, hj, e⟩ := List.getElem_of_mem hm
        have := hno j (by omega)
        rw [occ_one, List.getElem?_eq_getElem hj, e] at this
        simp at this
      rw [spl_nodot hnd]; rfl
    · have hl := Lib.occAt_head (c := 46) (t := []) rfl hocc
      have hil : i < l.length := (List.getElem?_eq_some_iff.1 hl).1
      have hli : l[i] = 46 := (List.getElem?_eq_some_iff.1 hl).2
      rw [Lib.count_hit (by simp) h, Nat.add_comm 1, Lib.splitK]
      have hm : ¬ (Lib.index l [46] == -1) = true := fun e => by have := beq_iff_eq.1 e; omega
      rw [if_neg hm, h]
      have e1 : (i : Int).toNat = i := by omega
      rw [e1]
      simp only [Nat.add_zero, List.length_cons, List.length_nil, Nat.zero_add]
      have hnd : (46 : UInt8) ∉ l.take i := by
        intro hmem
        rw [List.mem_take_iff_getElem] at hmem
        obtain ⟨j, hj, e⟩ := hmem
        have := hno j (by omega)
        rw [occ_one, List.getElem?_eq_getElem (by omega), e] at this
        simp at this
      have hsplit : l = l.take i ++ 46 :: l.drop (i + 1) := by
        rw [← hli, List.getElem_cons_drop, List.take_append_drop]
      match n, hn with
      | 0, hn => omega
      | n + 1, hn =>
        rw [splitK_spl n (l.drop (i + 1)) (by rw [List.length_drop]; omega)]
        conv => rhs; rw [hsplit]
        rw [spl_dot hnd]

theorem splitB_spl (s : ByteArray) : Lib.splitB (mk [46]) 0 (Lib.countB s (mk [46])) s = (spl (bs s)).map mk := by
  have h := Lib.splitB_data (mk [46]) 0 (Lib.countB s (mk [46])) s
  have h2 : Lib.splitK (mk [46]).data.toList 0 (Lib.countB s (mk [46])) s.data.toList = spl (bs s) := splitK_spl _ _ (Nat.le_refl _)
  rw [h2] at h
  rw [← h, List.map_map]
  conv => lhs; rw [← List.map_id (Lib.splitB (mk [46]) 0 (Lib.countB s (mk [46])) s)]
  exact List.map_congr_left (fun x _ => (mk_bs x).symm)

/-! ### The last dot -/
theorem lastP_eq {a b : List UInt8} (h : (46 : UInt8) ∉ b) : lastP (a ++ 46 :: b) = b := by
  unfold lastP; rw [spl_append, spl_nodot h]; simp
theorem parentP_eq {a b : List UInt8} (h : (46 : UInt8) ∉ b) : parentP (a ++ 46 :: b) = a := by
  unfold parentP; rw [spl_append, spl_nodot h, List.dropLast_concat, jn_spl]
theorem lastP_nodot {b : List UInt8} (h : (46 : UInt8) ∉ b) : lastP b = b := by
  unfold lastP; rw [spl_nodot h]; rfl
theorem parentP_nodot {b : List UInt8} (h : (46 : UInt8) ∉ b) : parentP b = [] := by
  unfold parentP; rw [spl_nodot h]; rfl

/-- Where the last dot of a text is: nowhere, or at 'i'. -/
theorem lastIx_cases (l : List UInt8) : (Lib.lastIndexByte (mk l) 46 = -1 ∧ (46 : UInt8) ∉ l) ∨
    ∃ i : Nat, Lib.lastIndexByte (mk l) 46 = i ∧ i < l.length ∧ l = l.take i ++ 46 :: l.drop (i + 1) ∧ (46 : UInt8) ∉ l.drop (i + 1) := by
  have hget : ∀ k (h : k < l.length), (((mk l).data[k]!).toNat : Int) = (l[k].toNat : Int) := by
    intro k h
    simp [h]
  have h46 : ∀ c : UInt8, (c.toNat : Int) = 46 ↔ c = 46 := by
    intro c
    constructor
    · intro h
      apply UInt8.toNat_inj.1
      show c.toNat = 46
      omega
    · rintro rfl; rfl
  rcases Lib.lastIndexByte_spec (mk l) 46 with ⟨h, hn⟩ | ⟨i, hi, h, hc, hn⟩
  · left
    refine ⟨h, fun hm => ?_⟩
    obtain ⟨j, hj, e⟩ := List.getElem_of_mem hm
    exact hn j (by rw [mk_size]; exact hj) (by rw [hget j hj, h46]; exact e)
  · right
    rw [mk_size] at hi
    have hli : l[i] = 46 := (h46 _).1 (by rw [← hget i hi]; exact hc)
    refine ⟨i, h, hi, ?_, fun hm => ?_⟩
    · rw [← hli, List.getElem_cons_drop, List.take_append_drop]
    · obtain ⟨j, hj, e⟩ := List.getElem_of_mem hm
      rw [List.length_drop] at hj
      rw [List.getElem_drop] at e
      exact hn (i + 1 + j) (by omega) (by rw [mk_size]; omega) (by rw [hget _ (by omega), h46]; exact e)
end Imp

/-
  The library's contracts (strings.Split and its kin), laid over this seat's translation by the kit's shelf tools in plain declarations.
-/
namespace Go.Proofs
open Go.Shelf
def Tryd.lays146_ren : Go.Shelf.Ren := ⟨fun | 146 => 41 | 221 => 56 | 268 => 66 | 138 => 67 | 143 => 68 | 195 => 71 | 197 => 72 | 218 => 73 | 219 => 74 | 260 => 76 | 217 => 77 | 225 => 78 | 224 => 79 | 267 => 80 | 266 => 81 | 314 => 82 | n => n, fun | 9 => 9 | 31 => 32 | 3 => 3 | 4 => 4 | 0 => 0 | 105 => 89 | 21 => 21 | 5 => 5 | 46 => 92 | 119 => 93 | 139 => 96 | 138 => 95 | 146 => 98 | 51 => 97 | n => n, fun | 1 => 0 | 3 => 1 | 4 => 2 | n => n⟩
theorem Tryd.lays146 : Go.Proofs.Lays.n146 Tryd.prog Tryd.lays146_ren := {
  mixed := by kernel_rfl
  f138 := Tryd.func67.trans (congrArg some (by kernel_rfl))
  f143 := Tryd.func68.trans (congrArg some (by kernel_rfl))
  f146 := Tryd.func41.trans (congrArg some (by kernel_rfl))
  f195 := Tryd.func71.trans (congrArg some (by kernel_rfl))
  f197 := Tryd.func72.trans (congrArg some (by kernel_rfl))
  f217 := Tryd.func77.trans (congrArg some (by kernel_rfl))
  f218 := Tryd.func73.trans (congrArg some (by kernel_rfl))
  f219 := Tryd.func74.trans (congrArg some (by kernel_rfl))
  f221 := Tryd.func56.trans (congrArg some (by kernel_rfl))
  f224 := Tryd.func79.trans (congrArg some (by kernel_rfl))
  f225 := Tryd.func78.trans (congrArg some (by kernel_rfl))
  f260 := Tryd.func76.trans (congrArg some (by kernel_rfl))
  f266 := Tryd.func81.trans (congrArg some (by kernel_rfl))
  f267 := Tryd.func80.trans (congrArg some (by kernel_rfl))
  f268 := Tryd.func66.trans (congrArg some (by kernel_rfl))
  f314 := Tryd.func82.trans (congrArg some (by kernel_rfl))
  t0 := Tryd.underlying0
  a0 := Tryd.isAgg0
  z0 := Tryd.sizeOf0
  v0 := Tryd.zeroValue0
  t3 := Tryd.underlying3
  a3 := Tryd.isAgg3
  z3 := Tryd.sizeOf3
  v3 := Tryd.zeroValue3
  t4 := Tryd.underlying4
  a4 := Tryd.isAgg4
  z4 := Tryd.sizeOf4
  v4 := Tryd.zeroValue4
  t5 := Tryd.underlying5
  a5 := Tryd.isAgg5
  z5 := Tryd.sizeOf5
  v5 := Tryd.zeroValue5
  t9 := Tryd.underlying9
  a9 := Tryd.isAgg9
  z9 := Tryd.sizeOf9
  v9 := Tryd.zeroValue9
  t21 := Tryd.underlying21
  a21 := Tryd.isAgg21
  z21 := Tryd.sizeOf21
  v21 := Tryd.zeroValue21
  t31 := Tryd.underlying32
  a31 := Tryd.isAgg32
  z31 := Tryd.sizeOf32
  v31 := Tryd.zeroValue32
  t46 := Tryd.underlying92
  a46 := Tryd.isAgg92
  z46 := Tryd.sizeOf92
  v46 := Tryd.zeroValue92
  t51 := Tryd.underlying97
  a51 := Tryd.isAgg97
  z51 := Tryd.sizeOf97
  v51 := Tryd.zeroValue97
  t105 := Tryd.underlying89
  a105 := Tryd.isAgg89
  z105 := Tryd.sizeOf89
  v105 := Tryd.zeroValue89
  t119 := Tryd.underlying93
  a119 := Tryd.isAgg93
  z119 := Tryd.sizeOf93
  t138 := Tryd.underlying95
  a138 := Tryd.isAgg95
  z138 := Tryd.sizeOf95
  v138 := Tryd.zeroValue95
  t139 := Tryd.underlying96
  a139 := Tryd.isAgg96
  z139 := Tryd.sizeOf96
  v139 := Tryd.zeroValue96
  t146 := Tryd.underlying98
  a146 := Tryd.isAgg98
  z146 := Tryd.sizeOf98
  v146 := Tryd.zeroValue98
  g1 := by kernel_rfl
  g3 := by kernel_rfl
  g4 := by kernel_rfl }
open Go.RowKit Go.Lib in

theorem Tryd.strings_Split (s sep : ByteArray) (m : Int) (w : World) (hs : s.size < 4294967281) (hm : w.cell? ⟨0, 0, none⟩ = some (.int .i64 m)) (h1 : 1 ≤ sep.size) :
    Calls Tryd.prog 41 #[.string s, .string sep] w fun e w' =>
      e = .returned (.slice (some ⟨w.heap.size, 0, none⟩) (Lib.countB s sep + 1) (Lib.countB s sep + 1)) ∧ w' = w.alloc (.cells ((Lib.splitB sep 0 (Lib.countB s sep) s).map Value.string).toArray 9) := Any.strings_Split Tryd.lays146 (by kernel_rfl) s sep m w hs hm h1
def Tryd.laysM146_ren : Go.Shelf.Ren := ⟨fun | 146 => 41 | 221 => 56 | 268 => 66 | 138 => 67 | 143 => 68 | 195 => 71 | 197 => 72 | 218 => 73 | 219 => 74 | 260 => 76 | 217 => 77 | 225 => 78 | 224 => 79 | 267 => 80 | 266 => 81 | 314 => 82 | n => n, fun | 9 => 9 | 31 => 32 | 3 => 3 | 4 => 4 | 0 => 0 | 105 => 89 | 21 => 21 | 5 => 5 | 46 => 92 | 119 => 93 | 139 => 96 | 138 => 95 | 146 => 98 | 51 => 97 | n => n, fun | 1 => 0 | 3 => 1 | 4 => 2 | n => n⟩
theorem Tryd.laysM146 : Go.Proofs.LaysM.n146 Tryd.prog Tryd.laysM146_ren := {
  mixed := by kernel_rfl
  f138 := Tryd.func67.trans (congrArg some (by kernel_rfl))
  f143 := Tryd.func68.trans (congrArg some (by kernel_rfl))
  f146 := Tryd.func41.trans (congrArg some (by kernel_rfl))
  f195 := Tryd.func71.trans (congrArg some (by kernel_rfl))
  f197 := Tryd.func72.trans (congrArg some (by kernel_rfl))
  f217 := Tryd.func77.trans (congrArg some (by kernel_rfl))
  f218 := Tryd.func73.trans (congrArg some (by kernel_rfl))
  f219 := Tryd.func74.trans (congrArg some (by kernel_rfl))
  f221 := Tryd.func56.trans (congrArg some (by kernel_rfl))
  f224 := Tryd.func79.trans (congrArg some (by kernel_rfl))
  f225 := Tryd.func78.trans (congrArg some (by kernel_rfl))
  f260 := Tryd.func76.trans (congrArg some (by kernel_rfl))
  f266 := Tryd.func81.trans (congrArg some (by kernel_rfl))
  f267 := Tryd.func80.trans (congrArg some (by kernel_rfl))
  f268 := Tryd.func66.trans (congrArg some (by kernel_rfl))
  f314 := Tryd.func82.trans (congrArg some (by kernel_rfl))
  t0 := Tryd.underlying0
  a0 := Tryd.isAgg0
  z0 := Tryd.sizeOf0
  v0 := Tryd.zeroValue0
  t3 := Tryd.underlying3
  a3 := Tryd.isAgg3
  z3 := Tryd.sizeOf3
  v3 := Tryd.zeroValue3
  t4 := Tryd.underlying4
  a4 := Tryd.isAgg4
  z4 := Tryd.sizeOf4
  v4 := Tryd.zeroValue4
  t5 := Tryd.underlying5
  a5 := Tryd.isAgg5
  z5 := Tryd.sizeOf5
  v5 := Tryd.zeroValue5
  t9 := Tryd.underlying9
  a9 := Tryd.isAgg9
  z9 := Tryd.sizeOf9
  v9 := Tryd.zeroValue9
  t21 := Tryd.underlying21
  a21 := Tryd.isAgg21
  z21 := Tryd.sizeOf21
  v21 := Tryd.zeroValue21
  t31 := Tryd.underlying32
  a31 := Tryd.isAgg32
  z31 := Tryd.sizeOf32
  v31 := Tryd.zeroValue32
  t46 := Tryd.underlying92
  a46 := Tryd.isAgg92
  z46 := Tryd.sizeOf92
  v46 := Tryd.zeroValue92
  t51 := Tryd.underlying97
  a51 := Tryd.isAgg97
  z51 := Tryd.sizeOf97
  v51 := Tryd.zeroValue97
  t105 := Tryd.underlying89
  a105 := Tryd.isAgg89
  z105 := Tryd.sizeOf89
  v105 := Tryd.zeroValue89
  t119 := Tryd.underlying93
  a119 := Tryd.isAgg93
  z119 := Tryd.sizeOf93
  t138 := Tryd.underlying95
  a138 := Tryd.isAgg95
  z138 := Tryd.sizeOf95
  v138 := Tryd.zeroValue95
  t139 := Tryd.underlying96
  a139 := Tryd.isAgg96
  z139 := Tryd.sizeOf96
  v139 := Tryd.zeroValue96
  t146 := Tryd.underlying98
  a146 := Tryd.isAgg98
  z146 := Tryd.sizeOf98
  v146 := Tryd.zeroValue98
  g1 := by kernel_rfl
  g3 := by kernel_rfl
  g4 := by kernel_rfl
  i0 := by kernel_rfl
  i3 := by kernel_rfl
  i4 := by kernel_rfl
  i5 := by kernel_rfl
  i9 := by kernel_rfl
  i21 := by kernel_rfl
  i31 := by kernel_rfl
  i46 := by kernel_rfl
  i51 := by kernel_rfl
  i105 := by kernel_rfl
  i138 := by kernel_rfl
  i139 := by kernel_rfl
  i146 := by kernel_rfl
  m1 := by kernel_rfl
  s1_3 := fun w h => Go.Proofs.cell_of_shapedOpen_int (zero := #[.int .i64 0]) (t := 3) h (of_decide_eq_true (by kernel_rfl)) (by kernel_rfl) rfl (by kernel_rfl) (by kernel_rfl) Tryd.underlying3
  m3 := by kernel_rfl
  m4 := by kernel_rfl }
end Go.Proofs
