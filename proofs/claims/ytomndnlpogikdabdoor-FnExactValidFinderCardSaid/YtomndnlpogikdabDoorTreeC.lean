/-
  Walks over files and trees: whole copies that the call owns, each body in a block of its own.
-/
import Derived.Test.YtomndnlpogikdabDoorTreeB
namespace Imp
open Go Go.RowKit
def filAt (M : List FR) (j : Nat) : Value := ((M[j / 6]?).bind fun r => (eF r)[j % 6]?).getD (.bool false)
theorem filAt_get {M : List FR} {k : Nat} (h : k < M.length) (r : Nat) {u : Value} (hu : (eF M[k])[r]? = some u) : filAt M (k * 6 + r) = u := by
  have hr : r < 6 := (List.getElem?_eq_some_iff.1 hu).1
  unfold filAt
  rw [show (k * 6 + r) / 6 = k by omega, show (k * 6 + r) % 6 = r by omega, List.getElem?_eq_getElem h]
  simp [hu]
theorem filAt_old {M : List FR} {x : FR} {j : Nat} (h : j < M.length * 6) : filAt (M ++ [x]) j = filAt M j := by
  unfold filAt
  rw [List.getElem?_append_left (by omega)]
theorem filAt_new {M : List FR} {x : FR} (r : Nat) {u : Value} (hu : (eF x)[r]? = some u) : filAt (M ++ [x]) (M.length * 6 + r) = u :=
  filAt_get (M := M ++ [x]) (k := M.length) (by simp) r (by simpa using hu)
theorem fil_row {M : List FR} {k j : Nat} {x : FR} (hk : M.length = k) (f : Nat → Value) :
    (if j = k * 6 + 5 then x.2 else if j = k * 6 + 4 then Value.int .i64 x.1.stamp else if j = k * 6 + 3 then Value.bool x.1.init else if j = k * 6 + 2 then Value.string x.1.name else if j = k * 6 + 1 then Value.string x.1.pkg else if j = k * 6 then Value.int .i64 x.1.root else if j < k * 6 then filAt M j else f j) =
    if j < (k + 1) * 6 then filAt (M ++ [x]) j else f j := by
  subst hk
  by_cases h5 : j = M.length * 6 + 5
  · subst h5; rw [if_pos rfl, if_pos (by omega), filAt_new 5 rfl]
  · rw [if_neg h5]
    by_cases h4 : j = M.length * 6 + 4
    · subst h4; rw [if_pos rfl, if_pos (by omega), filAt_new 4 rfl]
    · rw [if_neg h4]
      by_cases h3 : j = M.length * 6 + 3
      · subst h3; rw [if_pos rfl, if_pos (by omega), filAt_new 3 rfl]
      · rw [if_neg h3]
        by_cases h2 : j = M.length * 6 + 2
        · subst h2; rw [if_pos rfl, if_pos (by omega), filAt_new 2 rfl]
        · rw [if_neg h2]
          by_cases h1 : j = M.length * 6 + 1
          · subst h1; rw [if_pos rfl, if_pos (by omega), filAt_new 1 rfl]
          · rw [if_neg h1]
            by_cases h0 : j = M.length * 6
            · subst h0; rw [if_pos rfl, if_pos (by omega)]; exact (filAt_new 0 rfl).symm
            · rw [if_neg h0]
              by_cases h : j < M.length * 6
              · rw [if_pos h, if_pos (by omega), filAt_old h]
              · rw [if_neg h, if_neg (by omega)]
theorem heap_set6_other {W : World} {g b o0 o1 o2 o3 o4 o5 : Nat} {u0 u1 u2 u3 u4 u5 : Value} (h : b ≠ g) :
    ((((((W.setCell ⟨g, o0, none⟩ u0).setCell ⟨g, o1, none⟩ u1).setCell ⟨g, o2, none⟩ u2).setCell ⟨g, o3, none⟩ u3).setCell ⟨g, o4, none⟩ u4).setCell ⟨g, o5, none⟩ u5).heap[b]? = W.heap[b]? := by
  rw [Below.heap_setCell _ _ _ _ h, Below.heap_setCell _ _ _ _ h, Below.heap_setCell _ _ _ _ h, Below.heap_setCell _ _ _ _ h, Below.heap_setCell _ _ _ _ h, Below.heap_setCell _ _ _ _ h]
/-- No two of these files hold their bodies in one block. -/
def Apart (M : List FR) : Prop := M.Pairwise fun a b => ∀ i, a.2.ownBlock = some i → b.2.ownBlock ≠ some i
/-- A slice of files that the call owns, with all bodies; no two in one block. -/
def OwnT (w : World) (base tF tS : Nat) (v : Value) (M : List FR) : Prop :=
  Own w base tF 6 eF v M ∧ (∀ r ∈ M, Own w base tS 5 eSt r.2 r.1.body) ∧ Apart M ∧ ∀ r ∈ M, ∀ b, r.2.ownBlock = some b → v.ownBlock ≠ some b
theorem OwnT.reads {w : World} {base tF tS : Nat} {v : Value} {M : List FR} (h : OwnT w base tF tS v M) : FlR w base w.heap.size v M :=
  ⟨h.1.reads (fun _ _ => rfl), fun r hr => (h.2.1 r hr).reads (fun _ _ => rfl)⟩
end Imp
namespace Go.Proofs.YtomndnlpogikdabDoor
open Go Go.RowKit Imp
set_option linter.unusedVariables false

end Go.Proofs.YtomndnlpogikdabDoor
