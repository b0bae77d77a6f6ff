/-
  Walks: the size and the hash of a body, of both packages.
-/
import Derived.Test.YtomndnlpogikdaaDoorBodyC
namespace Imp
open Go Go.RowKit
def mixP (n k : Int) : Int := (n * 131 + k + 1) % 1000003
def hOk (n : Int) : Prop := 0 ≤ n ∧ n < 1000003
theorem mixP_ok {n k : Int} (_ : hOk n) (_ : 0 ≤ k) : hOk (mixP n k) :=
  ⟨Int.emod_nonneg _ (by decide), Int.emod_lt_of_pos _ (by decide)⟩
def mixB (n : Int) (l : List UInt8) : Int := l.foldl (fun n c => mixP n (c.toNat : Int)) n
def mixT (n : Int) (l : List UInt8) : Int := mixP (mixB n l) 0
theorem mixB_take {n : Int} {l : List UInt8} {k : Nat} (h : k < l.length) : mixB n (l.take (k + 1)) = mixP (mixB n (l.take k)) (l[k].toNat : Int) := by
  unfold mixB
  rw [List.take_succ_eq_append_getElem h, List.foldl_append]; rfl
theorem mixB_ok : ∀ {l : List UInt8} {n : Int}, hOk n → hOk (mixB n l)
  | [], _, h => h
  | c :: l, n, h => mixB_ok (l := l) (n := mixP n (c.toNat : Int)) (mixP_ok h (by omega))
theorem mixT_ok {l : List UInt8} {n : Int} (h : hOk n) : hOk (mixT n l) := mixP_ok (mixB_ok h) (by omega)
def hashSt (n : Int) (s : Stm) : Int := mixT (mixT (mixP (mixP (mixP n s.kind) s.level) s.value) (bs s.mod)) (bs s.name)
def hashP (L : List Stm) : Int := L.foldl hashSt 1
def smSt (s : Stm) : Prop := (0 ≤ s.kind ∧ s.kind ≤ 1000) ∧ (0 ≤ s.level ∧ s.level ≤ 1000) ∧ (0 ≤ s.value ∧ s.value ≤ 1000)
theorem okStm_small {s : Stm} (h : okStm s = true) : smSt s := by
  unfold okStm at h
  unfold smSt
  split at h
  · rename_i hk; simp at h hk; omega
  · split at h
    · rename_i hk; simp at h hk; omega
    · split at h
      · rename_i hk; simp at h hk; omega
      · split at h
        · rename_i hk; simp at h hk; omega
        · split at h
          · rename_i hk; simp at h hk; omega
          · split at h
            · rename_i hk; simp at h hk; omega
            · cases h
theorem okBody_small {L : List Stm} (h : okBody L = true) : ∀ s ∈ L, smSt s := by
  unfold okBody at h
  rw [Bool.and_eq_true] at h
  exact fun s hs => okStm_small (List.all_eq_true.mp h.1 s hs)
theorem hashSt_ok {n : Int} {s : Stm} (h : hOk n) (hs : smSt s) : hOk (hashSt n s) :=
  mixT_ok (mixT_ok (mixP_ok (mixP_ok (mixP_ok h hs.1.1) hs.2.1.1) hs.2.2.1))
theorem hashP_go : ∀ {L : List Stm} {n : Int}, hOk n → (∀ s ∈ L, smSt s) → hOk (L.foldl hashSt n)
  | [], _, h, _ => h
  | s :: L, n, h, hs => hashP_go (L := L) (n := hashSt n s) (hashSt_ok h (hs s (List.mem_cons_self ..))) (fun x hx => hs x (List.mem_cons_of_mem _ hx))
theorem hashP_ok {L : List Stm} (hs : ∀ s ∈ L, smSt s) : hOk (hashP L) := hashP_go ⟨by decide, by decide⟩ hs
theorem hashP_take {L : List Stm} {k : Nat} (h : k < L.length) : hashP (L.take (k + 1)) = hashSt (hashP (L.take k)) L[k] := by
  unfold hashP
  rw [List.take_succ_eq_append_getElem h, List.foldl_append]; rfl
def fHash (L : List Stm) : Int := if okBody L then hashP L else -1
def fSize (L : List Stm) : Int := if okBody L then ((3 * L.length + totB L : Nat) : Int) else -1
theorem stm_cells {w : World} {b t : Nat} {x : Stm} (h : w.heap[b]? = some (.cells #[.int .i64 x.kind, .string x.mod, .int .i64 x.level, .string x.name, .int .i64 x.value] t (0, 0))) :
    w.cell? ⟨b, 0, none⟩ = some (.int .i64 x.kind) ∧ w.cell? ⟨b, 1, none⟩ = some (.string x.mod) ∧ w.cell? ⟨b, 2, none⟩ = some (.int .i64 x.level) ∧ w.cell? ⟨b, 3, none⟩ = some (.string x.name) ∧ w.cell? ⟨b, 4, none⟩ = some (.int .i64 x.value) :=
  ⟨by rw [cell_of_row w b 0 _ _ _ h]; rfl, by rw [cell_of_row w b 1 _ _ _ h]; rfl, by rw [cell_of_row w b 2 _ _ _ h]; rfl, by rw [cell_of_row w b 3 _ _ _ h]; rfl, by rw [cell_of_row w b 4 _ _ _ h]; rfl⟩
theorem keep_blk {w w' : World} {g b : Nat} {o : Obj} (h : w.heap[b]? = some o) (k : w.grownBy w' (some g)) (hne : b ≠ g) : w'.heap[b]? = some o :=
  (k.block b (lt_of_block h) (by intro e; injection e with e; exact hne e)).trans h
end Imp
namespace Go.Proofs.YtomndnlpogikdaaDoor
open Go Go.RowKit Imp
set_option linter.unusedVariables false

end Go.Proofs.YtomndnlpogikdaaDoor
