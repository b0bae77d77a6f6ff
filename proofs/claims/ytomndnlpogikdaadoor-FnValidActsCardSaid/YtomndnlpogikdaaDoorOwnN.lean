/-
  Words for memory: a slice of rows of which each holds a slice of its own, all of them made by the call; what a change of such rows leaves alone.
-/
import Derived.Test.YtomndnlpogikdaaDoorMarkB
import Derived.Test.YtomndnlpogikdaaDoorTreeC
namespace Imp
open Go Go.RowKit
def ApartN {α : Type} (M : List (α × Value)) : Prop := M.Pairwise fun a b => ∀ i, a.2.ownBlock = some i → b.2.ownBlock ≠ some i
def OwnN (w : World) (base tO K : Nat) {α β : Type} (enc : α × Value → List Value) (tI kI : Nat) (encI : β → List Value) (inner : α → List β) (v : Value) (M : List (α × Value)) : Prop :=
  Own w base tO K enc v M ∧ (∀ r ∈ M, Own w base tI kI encI r.2 (inner r.1)) ∧ ApartN M ∧ ∀ r ∈ M, ∀ b, r.2.ownBlock = some b → v.ownBlock ≠ some b
/-- The blocks of such rows. -/
def ownsN {α : Type} (v : Value) (M : List (α × Value)) (b : Nat) : Prop := v.ownBlock = some b ∨ ∃ r ∈ M, r.2.ownBlock = some b
/-- Grown, and changed in these blocks alone. -/
structure ChgN (p : Nat → Prop) (w w' : World) : Prop where
  os : w'.os = w.os
  tape : w'.tape = w.tape
  output : w'.output = w.output
  size : w.heap.size ≤ w'.heap.size
  block : ∀ b, b < w.heap.size → ¬ p b → w'.heap[b]? = w.heap[b]?
theorem ChgN.refl (p : Nat → Prop) (w : World) : ChgN p w w := ⟨rfl, rfl, rfl, Nat.le_refl _, fun _ _ _ => rfl⟩
theorem ChgN.trans {p : Nat → Prop} {a b c : World} (h : ChgN p a b) (k : ChgN p b c) : ChgN p a c :=
  ⟨k.os.trans h.os, k.tape.trans h.tape, k.output.trans h.output, Nat.le_trans h.size k.size, fun i hi hp => (k.block i (Nat.lt_of_lt_of_le hi h.size) hp).trans (h.block i hi hp)⟩
theorem ChgN.mono {p q : Nat → Prop} {a b : World} (h : ChgN p a b) (hpq : ∀ i, p i → q i) : ChgN q a b := ⟨h.os, h.tape, h.output, h.size, fun i hi hq => h.block i hi (fun hp => hq (hpq i hp))⟩
theorem ChgN.of_gr {p : Nat → Prop} {a b : World} (h : Below a.heap.size a b) : ChgN p a b := ⟨h.os, h.tape, h.output, h.size, fun i hi _ => h.block i hi⟩
theorem ChgN.of_grown {p : Nat → Prop} {a b : World} {g : Option Nat} (h : a.grownBy b g) (hp : ∀ i, g = some i → p i) : ChgN p a b :=
  ⟨h.os, h.tape, h.output, h.size, fun i hi hq => h.block i hi (fun e => hq (hp i e.symm))⟩
theorem ChgN.set {p : Nat → Prop} (w : World) (g o : Nat) (u : Value) (hp : p g) : ChgN p w (w.setCell ⟨g, o, none⟩ u) := ChgN.of_grown (grown_set w g o u) (fun i e => by injection e with e; subst e; exact hp)
/-- Where all these blocks are late ones, the early ones stay. -/
theorem Below.chg {B : Nat} {p : Nat → Prop} {a b c : World} (h : Below B a b) (k : ChgN p b c) (hB : B ≤ b.heap.size) (hp : ∀ i, p i → B ≤ i) : Below B a c := by
  have h' : Below B b c := ⟨k.os, k.tape, k.output, k.size, fun i hi => k.block i (by omega) (fun q => by have := hp i q; omega)⟩
  exact h.trans h'
theorem Own.chg {α : Type} {w w' : World} {base e k : Nat} {enc : α → List Value} {v : Value} {L : List α} {p : Nat → Prop} (h : Own w base e k enc v L) (hc : ChgN p w w') (hp : ∀ b, v.ownBlock = some b → ¬ p b) : Own w' base e k enc v L :=
  h.keep (fun b hb => hc.block b (h.block b hb).2 (hp b hb))
section
variable {w w' : World} {base tO K tI kI : Nat} {α β : Type} {enc : α × Value → List Value} {encI : β → List Value} {inner : α → List β} {v : Value} {M A B : List (α × Value)} {x x' : α × Value}
theorem OwnN.chg {p : Nat → Prop} (h : OwnN w base tO K enc tI kI encI inner v M) (hc : ChgN p w w') (hp : ∀ b, ownsN v M b → ¬ p b) : OwnN w' base tO K enc tI kI encI inner v M :=
  ⟨h.1.chg hc (fun b hb => hp b (Or.inl hb)), fun r hr => (h.2.1 r hr).chg hc (fun b hb => hp b (Or.inr ⟨r, hr, hb⟩)), h.2.2.1, h.2.2.2⟩
theorem OwnN.block (h : OwnN w base tO K enc tI kI encI inner v M) : ∀ b, ownsN v M b → base ≤ b ∧ b < w.heap.size := by
  intro b hb
  rcases hb with hb | ⟨r, hr, hb⟩
  · exact h.1.block b hb
  · exact (h.2.1 r hr).block b hb
theorem OwnN.mono {base' : Nat} (h : OwnN w base tO K enc tI kI encI inner v M) (hb : base' ≤ base) : OwnN w base' tO K enc tI kI encI inner v M :=
  ⟨h.1.mono hb, fun r hr => (h.2.1 r hr).mono hb, h.2.2⟩
theorem OwnN.gr (h : OwnN w base tO K enc tI kI encI inner v M) (hg : Below w.heap.size w w') : OwnN w' base tO K enc tI kI encI inner v M :=
  h.chg (p := fun _ => False) (ChgN.of_gr hg) (fun _ _ h => h)
theorem OwnN.set {g j : Nat} {u : Value} (h : OwnN w base tO K enc tI kI encI inner v (A ++ x :: B)) (hK : ∀ y, (enc y).length = K) (hv : v.ownBlock = some g) (hj : j < K) (hx : enc x' = (enc x).set j u) (h2 : x'.2 = x.2) (hi : inner x'.1 = inner x.1) :
    OwnN (w.setCell ⟨g, A.length * K + j, none⟩ u) base tO K enc tI kI encI inner v (A ++ x' :: B) := by
  obtain ⟨h0, h1, h3, h4⟩ := h
  have hkeep : ∀ r ∈ A ++ x :: B, Own (w.setCell ⟨g, A.length * K + j, none⟩ u) base tI kI encI r.2 (inner r.1) := fun r hr =>
    (h1 r hr).keep (fun b hb => Below.heap_setCell w _ _ b (by intro e; have := h4 r hr b hb; rw [hv] at this; apply this; rw [e]))
  refine ⟨own_setK hK h0 hv hj hx, fun r hr => ?_, ?_, fun r hr b hb => ?_⟩
  · rw [List.mem_append, List.mem_cons] at hr
    rcases hr with hr | rfl | hr
    · exact hkeep r (by simp [hr])
    · have := hkeep x (by simp)
      rw [h2, hi]; exact this
    · exact hkeep r (by simp [hr])
  · unfold ApartN at h3 ⊢
    rw [List.pairwise_append, List.pairwise_cons] at h3 ⊢
    refine ⟨h3.1, ⟨fun a ha => ?_, h3.2.1.2⟩, fun a ha b hb => ?_⟩
    · rw [h2]; exact h3.2.1.1 a ha
    · rw [List.mem_cons] at hb
      rcases hb with rfl | hb
      · rw [h2]; exact h3.2.2 a ha x (by simp)
      · exact h3.2.2 a ha b (by simp [hb])
  · rw [List.mem_append, List.mem_cons] at hr
    rcases hr with hr | rfl | hr
    · exact h4 r (by simp [hr]) b hb
    · rw [h2] at hb; exact h4 x (by simp) b hb
    · exact h4 r (by simp [hr]) b hb
theorem OwnN.sub (h : OwnN w base tO K enc tI kI encI inner v (A ++ x :: B)) (hg : w.grownBy w' x.2.ownBlock) (ho : Own w' base tI kI encI x.2 (inner x'.1)) (h2 : x'.2 = x.2) (he : enc x' = enc x) :
    OwnN w' base tO K enc tI kI encI inner v (A ++ x' :: B) := by
  obtain ⟨h0, h1, h3, h4⟩ := h
  have hfl : (A ++ x' :: B).flatMap enc = (A ++ x :: B).flatMap enc := by simp [he]
  have hle : (A ++ x' :: B).length = (A ++ x :: B).length := by simp
  have h0' : Own w' base tO K enc v (A ++ x :: B) := h0.keep (fun b hb => hg.block b (h0.block b hb).2 (by intro e; exact h4 x (by simp) b e.symm hb))
  have h3' := h3
  unfold ApartN at h3'
  rw [List.pairwise_append, List.pairwise_cons] at h3'
  refine ⟨by unfold Own; rw [hfl, hle]; exact h0', fun r hr => ?_, ?_, fun r hr b hb => ?_⟩
  · rw [List.mem_append, List.mem_cons] at hr
    rcases hr with hr | rfl | hr
    · have hr1 := h1 r (by simp [hr])
      exact hr1.keep (fun b hb => hg.block b (hr1.block b hb).2 (by intro e; exact h3'.2.2 r hr x (by simp) b hb e.symm))
    · rw [h2]; exact ho
    · have hr1 := h1 r (by simp [hr])
      exact hr1.keep (fun b hb => hg.block b (hr1.block b hb).2 (by intro e; exact h3'.2.1.1 r hr b e.symm hb))
  · unfold ApartN
    rw [List.pairwise_append, List.pairwise_cons]
    refine ⟨h3'.1, ⟨fun a ha => ?_, h3'.2.1.2⟩, fun a ha b hb => ?_⟩
    · rw [h2]; exact h3'.2.1.1 a ha
    · rw [List.mem_cons] at hb
      rcases hb with rfl | hb
      · rw [h2]; exact h3'.2.2 a ha x (by simp)
      · exact h3'.2.2 a ha b (by simp [hb])
  · rw [List.mem_append, List.mem_cons] at hr
    rcases hr with hr | rfl | hr
    · exact h4 r (by simp [hr]) b hb
    · rw [h2] at hb; exact h4 x (by simp) b hb
    · exact h4 r (by simp [hr]) b hb
theorem OwnN.nil (v : Value) (h : Own w base tO K enc v []) : OwnN w base tO K enc tI kI encI inner v [] := ⟨h, by simp, List.Pairwise.nil, by simp⟩
end
theorem OwnN.of_T {w : World} {base tF tS : Nat} {v : Value} {M : List FR} (h : OwnT w base tF tS v M) : OwnN w base tF 6 eF tS 5 eSt Fil.body v M := h
theorem OwnN.to_T {w : World} {base tF tS : Nat} {v : Value} {M : List FR} (h : OwnN w base tF 6 eF tS 5 eSt Fil.body v M) : OwnT w base tF tS v M := h
end Imp
