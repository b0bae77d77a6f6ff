/-
  Words for memory: a slice that reads as a list of rows of cells; worlds that have only grown.
-/
import Derived.WalkKit
import Derived.Lib.Hide
import Derived.Deep.QuietTactic
import Derived.BigQuiet
import Derived.Deep.OwnRows
import Derived.WalkSmall
namespace Imp
open Go Go.RowKit

/-- The blocks from 'lo' up to 'hi' are as they were. -/
def Same (lo hi : Nat) (w w' : World) : Prop := ∀ b, lo ≤ b → b < hi → w'.heap[b]? = w.heap[b]?

theorem Same.of_below {B lo hi : Nat} {w w' : World} (h : Below B w w') (hB : hi ≤ B) : Same lo hi w w' := fun b _ h2 => h.block b (by omega)
theorem Same.of_grown {g : Option Nat} {lo hi : Nat} {w w' : World} (h : w.grownBy w' g) (hB : hi ≤ w.heap.size) (hg : ∀ k, g = some k → k < lo ∨ hi ≤ k) : Same lo hi w w' :=
  fun b h1 h2 => h.block b (by omega) (fun e => by have := hg b e.symm; omega)
theorem Same.drewN (lo hi : Nat) (w : World) (n : Nat) : Same lo hi w (w.drewN n) := fun _ _ _ => rfl
theorem Same.alloc {lo hi : Nat} (w : World) (o : Obj) (h : hi ≤ w.heap.size) : Same lo hi w (w.alloc o) := fun b _ h2 => Below.heap_alloc w o b (by omega)
theorem Same.trans {lo hi : Nat} {a b c : World} (h : Same lo hi a b) (k : Same lo hi b c) : Same lo hi a c := fun i h1 h2 => (k i h1 h2).trans (h i h1 h2)
theorem Same.refl (lo hi : Nat) (w : World) : Same lo hi w w := fun _ _ _ => rfl
theorem Same.cell {lo hi : Nat} {w w' : World} (h : Same lo hi w w') {b o : Nat} (h1 : lo ≤ b) (h2 : b < hi) : w'.cell? ⟨b, o, none⟩ = w.cell? ⟨b, o, none⟩ :=
  World.cell?_of_block (w := w) (a := ⟨b, o, none⟩) (h b h1 h2)

/-- The slice value 'v' reads as the list 'L', each element as the 'k' cells 'enc x'; its cells lie in blocks from 'lo' up to 'hi'. -/
def SlR (w : World) (lo hi : Nat) {α : Type} (k : Nat) (enc : α → List Value) (v : Value) (L : List α) : Prop :=
  ∃ a c, v = .slice a L.length c ∧ L.length ≤ c ∧ c ≤ maxLen ∧
    ∀ i (h : i < L.length), ∃ b o, a = some ⟨b, o, none⟩ ∧ (lo ≤ b ∧ b < hi) ∧ ∀ j u, (enc L[i])[j]? = some u → w.cell? ⟨b, o + i * k + j, none⟩ = some u

section
variable {α : Type} {w w' : World} {lo hi k : Nat} {enc : α → List Value} {v : Value} {L : List α}

theorem SlR.nil (lo hi : Nat) (c : Nat) (hc : c ≤ maxLen) (a : Option Addr) : SlR w lo hi k enc (.slice a 0 c) [] := ⟨a, c, rfl, Nat.zero_le _, hc, fun i h => absurd h (by simp)⟩

theorem SlR.keep (h : SlR w lo hi k enc v L) (hs : Same lo hi w w') : SlR w' lo hi k enc v L := by
  obtain ⟨a, c, rfl, h1, h2, h3⟩ := h
  refine ⟨a, c, rfl, h1, h2, fun i hi => ?_⟩
  obtain ⟨b, o, rfl, hlt, hc⟩ := h3 i hi
  exact ⟨b, o, rfl, hlt, fun j u hu => (hs.cell hlt.1 hlt.2).trans (hc j u hu)⟩

theorem SlR.mono (h : SlR w lo hi k enc v L) {lo' hi' : Nat} (h1 : lo' ≤ lo) (h2 : hi ≤ hi') : SlR w lo' hi' k enc v L := by
  obtain ⟨a, c, rfl, e1, e2, h3⟩ := h
  refine ⟨a, c, rfl, e1, e2, fun i hi => ?_⟩
  obtain ⟨b, o, rfl, hlt, hc⟩ := h3 i hi
  exact ⟨b, o, rfl, ⟨by omega, by omega⟩, hc⟩

theorem SlR.below {B : Nat} (h : SlR w lo hi k enc v L) (hb : Below B w w') (hB : hi ≤ B) : SlR w' lo hi k enc v L := h.keep (Same.of_below hb hB)
theorem SlR.drewN (h : SlR w lo hi k enc v L) (n : Nat) : SlR (w.drewN n) lo hi k enc v L := h.keep (Same.drewN _ _ _ _)

theorem SlR.len_le (h : SlR w lo hi k enc v L) : L.length ≤ maxLen := by
  obtain ⟨a, c, _, h1, h2, _⟩ := h
  omega

/-- The form of the value. -/
theorem SlR.form (h : SlR w lo hi k enc v L) : ∃ a c, v = .slice a L.length c ∧ L.length ≤ c ∧ c ≤ 9223372036854775807 := by
  obtain ⟨a, c, h0, h1, h2, _⟩ := h
  exact ⟨a, c, h0, h1, by unfold maxLen at h2; exact h2⟩

/-- A cut at the end. -/
theorem SlR.take {a : Option Addr} {n c : Nat} (h : SlR w lo hi k enc (.slice a n c) L) (m : Nat) (hm : m ≤ L.length) : SlR w lo hi k enc (.slice a m c) (L.take m) := by
  obtain ⟨a', c', e, h1, h2, h3⟩ := h
  injection e with e1 e2 e3
  subst e1; subst e3
  have hl : (L.take m).length = m := by rw [List.length_take]; omega
  refine ⟨a, c, by rw [hl], by omega, h2, fun i hi => ?_⟩
  rw [hl] at hi
  obtain ⟨b, o, e, hb, hc⟩ := h3 i (by omega)
  exact ⟨b, o, e, hb, fun j u hu => hc j u (by simpa using hu)⟩

/-- A cut at the beginning. -/
theorem SlR.drop {a : Option Addr} {n c : Nat} (h : SlR w lo hi k enc (.slice a n c) L) (m : Nat) (hm : m ≤ L.length) :
    SlR w lo hi k enc (.slice (if c = m then a else a.map (·.add (m * k))) (L.length - m) (c - m)) (L.drop m) := by
  obtain ⟨a', c', e, h1, h2, h3⟩ := h
  injection e with e1 e2 e3
  subst e1; subst e3
  have hl : (L.drop m).length = L.length - m := by rw [List.length_drop]
  refine ⟨_, c - m, by rw [hl], by omega, by omega, fun i hi => ?_⟩
  rw [hl] at hi
  obtain ⟨b, o, rfl, hb, hc⟩ := h3 (m + i) (by omega)
  refine ⟨b, o + m * k, ?_, hb, fun j u hu => ?_⟩
  · rw [if_neg (by omega)]
    simp only [Option.map_some, Option.some.injEq]
    unfold Addr.add
    split
    · rename_i h0; rw [h0]; rfl
    · rfl
  · have := hc j u (by simpa using hu)
    rw [Nat.add_mul, ← Nat.add_assoc] at this
    exact this

/-- A cut behind an element, its address as the walk spells it. -/
theorem SlR.drop1 {a : Option Addr} {n c : Nat} (h : SlR w lo hi k enc (.slice a n c) L) (i : Nat) (_ : i < L.length) :
    SlR w lo hi k enc (.slice (if c = i + 1 then a else a.map (fun x => { block := x.block, off := x.off + (i + 1) * k })) (L.length - (i + 1)) (c - (i + 1))) (L.drop (i + 1)) := by
  have h' := h
  obtain ⟨a', c', e, h1, h2, h3⟩ := h
  injection e with e1 e2 e3
  subst e1; subst e3
  have hl : (L.drop (i + 1)).length = L.length - (i + 1) := by rw [List.length_drop]
  refine ⟨_, c - (i + 1), by rw [hl], by omega, by omega, fun j hj => ?_⟩
  rw [hl] at hj
  obtain ⟨b, o, rfl, hb, hc⟩ := h3 (i + 1 + j) (by omega)
  refine ⟨b, o + (i + 1) * k, ?_, hb, fun q u hu => ?_⟩
  · rw [if_neg (by omega)]; rfl
  · have := hc q u (by simpa using hu)
    rw [Nat.add_mul (i + 1) j, ← Nat.add_assoc] at this
    exact this

theorem flatMap_len {enc : α → List Value} {k : Nat} : ∀ M : List α, (∀ x ∈ M, (enc x).length = k) → (M.flatMap enc).length = M.length * k
  | [], _ => by simp
  | x :: M, hM => by
    rw [List.flatMap_cons, List.length_append, hM x (by simp), flatMap_len M (fun y hy => hM y (by simp [hy])), List.length_cons, Nat.succ_mul]; omega

theorem flatMap_get {enc : α → List Value} {k : Nat} {L : List α} (hk : ∀ x ∈ L, (enc x).length = k) {i j : Nat} (hi : i < L.length) {u : Value} (hu : (enc L[i])[j]? = some u) : (L.flatMap enc)[i * k + j]? = some u := by
  have hj : j < (enc L[i]).length := (List.getElem?_eq_some_iff.1 hu).1
  have e0 : L = L.take i ++ L[i] :: L.drop (i + 1) := by rw [List.getElem_cons_drop, List.take_append_drop]
  have hl1 : ((L.take i).flatMap enc).length = i * k := by
    rw [flatMap_len _ (fun x hx => hk x (List.mem_of_mem_take hx)), List.length_take]; congr 1; omega
  rw [e0, List.flatMap_append, List.getElem?_append_right (by omega), hl1, List.flatMap_cons, List.getElem?_append_left (by omega)]
  rw [show i * k + j - i * k = j from by omega]; exact hu

/-- A row that the call itself made reads as the list. -/
theorem SlR.of_own {base : Nat} {e : TypeId} {n : Nat} {xs : List Value} (h : w.ownsRow base e k v n xs) (hn : n = L.length) (hk : ∀ x ∈ L, (enc x).length = k) (hx : xs = L.flatMap enc) : SlR w base w.heap.size k enc v L := by
  subst hx; subst hn
  rcases h.2 with ⟨rfl, h0⟩ | ⟨g, cap, cur, rfl, hb, hg, h1, h2, h3, h4⟩
  · have : L = [] := List.eq_nil_of_length_eq_zero h0
    subst this
    exact SlR.nil _ _ 0 (Nat.zero_le _) _
  · refine ⟨_, cap, rfl, h1, h2, fun i hi => ⟨g, 0, rfl, ⟨hb, (Array.getElem?_eq_some_iff.1 hg).1⟩, fun j u hu => ?_⟩⟩
    have hflat := flatMap_get hk hi hu
    rw [← h4] at hflat
    rw [List.getElem?_take] at hflat
    split at hflat
    · rw [cell_of_row w g (0 + i * k + j) cur e (0, 0) hg, Nat.zero_add]; simpa using hflat
    · cases hflat

/-- A block that the call made, known whole, reads as the list. -/
theorem SlR.of_block {g c : Nat} {cs : Array Value} {e : TypeId} {fr : Nat × Nat} (h : w.heap[g]? = some (.cells cs e fr)) (h1 : L.length ≤ c) (h2 : c ≤ maxLen) (hl : lo ≤ g) (hh : g < hi) (hk : ∀ x ∈ L, (enc x).length = k)
    (hcs : (cs.toList.take (L.length * k)) = L.flatMap enc) : SlR w lo hi k enc (.slice (some ⟨g, 0, none⟩) L.length c) L := by
  refine ⟨_, c, rfl, h1, h2, fun i hi => ⟨g, 0, rfl, ⟨hl, hh⟩, fun j u hu => ?_⟩⟩
  have hflat := flatMap_get hk hi hu
  rw [← hcs, List.getElem?_take] at hflat
  split at hflat
  · rw [cell_of_row w g (0 + i * k + j) cs e fr h, Nat.zero_add]; simpa using hflat
  · cases hflat
end

/-- Encodings of one cell. -/
def eI (n : Int) : List Value := [.int .i64 n]
def eB (n : UInt8) : List Value := [.int .u8 n.toNat]
def eS (s : ByteArray) : List Value := [.string s]

theorem dd (w : World) (n m : Nat) : ∃ k, (w.drewN n).drewN m = w.drewN k := ⟨n + m, by rw [World.drewN_drewN]⟩

/-! ### Calls in a region that draws: the callee only reads -/
theorem quiet_add {P : Program} {f : FuncId} {args : Array Value} {w : World} {a n : Nat} {v : Value}
    (h : Calls P f args (w.drewN (a + n)) fun e w' => e = .returned v ∧ ∃ m, w' = (w.drewN (a + n)).drewN m) :
    Calls P f args (w.drewN (a + n)) fun e w'' => e = .returned v ∧ ∃ m, w'' = w.drewN (a + m) :=
  h.mono fun _ _ ⟨he, m, hm⟩ => ⟨he, n + m, by rw [hm, World.drewN_drewN, Nat.add_assoc]⟩
theorem quiet_add_left {P : Program} {f : FuncId} {args : Array Value} {w : World} {a n : Nat} {v : Value}
    (h : Calls P f args (w.drewN (a + n)) fun e w' => e = .returned v ∧ w.drewN (a + n) = w') :
    Calls P f args (w.drewN (a + n)) fun e w'' => e = .returned v ∧ ∃ m, w'' = w.drewN (a + m) :=
  h.mono fun _ _ ⟨he, hm⟩ => ⟨he, n, hm.symm⟩
theorem quiet_left {P : Program} {f : FuncId} {args : Array Value} {w : World} {n : Nat} {v : Value}
    (h : Calls P f args (w.drewN n) fun e w' => e = .returned v ∧ w.drewN n = w') : Calls P f args (w.drewN n) fun e w'' => e = .returned v ∧ ∃ m, w'' = w.drewN m :=
  h.mono fun _ _ ⟨he, hm⟩ => ⟨he, n, hm.symm⟩

end Imp
