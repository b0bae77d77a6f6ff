/-
  Appends onto a slice that the call itself made: one law for a source that reads as a list (nil let in), in a plain region and in one that draws.
-/
import Derived.Test.YtomndnlpogikdaaDoorMem
import Derived.Maps.AppendAt
import Derived.Deep.AppendLies
import Derived.Deep.RegionLaw
import Derived.RegionTactic
import Derived.OwnWalk
namespace Imp
open Go Go.RowKit

/-- What is known of a slice type 't' with elements of type 'e', 'k' cells and 'bytes' bytes each. -/
def TI (P : Program) (t e : TypeId) (k bytes : Nat) : Prop :=
  P.underlying t = some (.slice e) ∧ ∃ i z, P.info? e = some i ∧ i.zero = some z ∧ i.size = k ∧ i.bytes = bytes ∧ z.cells.size = k ∧ 0 < k

theorem TI.mk' {P : Program} {t e : TypeId} {k bytes : Nat} {z : Value} (h : P.underlying t = some (.slice e)) (hi : (P.info? e).map (fun i => (i.zero, i.size, i.bytes)) = some (some z, k, bytes)) (hz : z.cells.size = k) (hk : 0 < k) : TI P t e k bytes := by
  obtain ⟨i, h0, h1, h2, h3⟩ := info_parts hi
  exact ⟨h, i, z, h0, h1, h2, h3, hz, hk⟩

/-- 'v' is a slice that the call made: its cells are those of 'L'. -/
def Own (w : World) (base : Nat) {α : Type} (e : TypeId) (k : Nat) (enc : α → List Value) (v : Value) (L : List α) : Prop :=
  w.ownsRow base e k v L.length (L.flatMap enc)

section
variable {α : Type} {w w' : World} {base e k : Nat} {enc : α → List Value} {v : Value} {L : List α}

theorem Own.reads (h : Own w base e k enc v L) (hk : ∀ x ∈ L, (enc x).length = k) : SlR w base w.heap.size k enc v L := SlR.of_own h rfl hk rfl
theorem Own.nil (w : World) (base e k : Nat) (enc : α → List Value) : Own w base e k enc (.slice none 0 0) [] := World.ownsRow_nil w base e k
theorem Own.empty (w : World) (base e k : Nat) (enc : α → List Value) (h : base ≤ w.heap.size) : Own (w.alloc (.cells #[] e)) base e k enc (.slice (some ⟨w.heap.size, 0, none⟩) 0 0) [] :=
  World.ownsRow_made w #[] 0 h (Nat.zero_le _) (by simp)
theorem Own.alloc (h : Own w base e k enc v L) (o : Obj) : Own (w.alloc o) base e k enc v L := World.ownsRow.alloc h o
theorem Own.drewN (h : Own w base e k enc v L) (n : Nat) : Own (w.drewN n) base e k enc v L := h
theorem Own.block (h : Own w base e k enc v L) : ∀ b, v.ownBlock = some b → base ≤ b ∧ b < w.heap.size := World.ownsRow.lt h
theorem Own.keep (h : Own w base e k enc v L) (hs : ∀ b, v.ownBlock = some b → w'.heap[b]? = w.heap[b]?) : Own w' base e k enc v L := by
  refine ⟨h.1, ?_⟩
  rcases h.2 with hn | ⟨g, cap, cur, rfl, hb, hgg, rest⟩
  · exact .inl hn
  · exact .inr ⟨g, cap, cur, rfl, hb, (hs g rfl).trans hgg, rest⟩
theorem Own.mono {base' : Nat} (h : Own w base e k enc v L) (hb : base' ≤ base) : Own w base' e k enc v L := by
  refine ⟨h.1, ?_⟩
  rcases h.2 with hn | ⟨g, cap, cur, rfl, hg, rest⟩
  · exact .inl hn
  · exact .inr ⟨g, cap, cur, rfl, by omega, rest⟩
theorem Own.form (h : Own w base e k enc v L) : ∃ a c, v = .slice a L.length c ∧ L.length ≤ c ∧ c ≤ 9223372036854775807 := by
  rcases h.2 with ⟨rfl, h0⟩ | ⟨g, cap, cur, rfl, _, _, h1, h2, _⟩
  · exact ⟨none, 0, by rw [h0], by omega, by omega⟩
  · exact ⟨_, cap, rfl, h1, by unfold maxLen at h2; exact h2⟩

/-- A new slice of one element, as the translation lays it ahead of an append. -/
theorem SlR.one (w : World) (lo : Nat) (x : α) (e : TypeId) (hlo : lo ≤ w.heap.size) (hk : (enc x).length = k) : SlR (w.alloc (.cells (enc x).toArray e)) lo (w.heap.size + 1) k enc (.slice (some ⟨w.heap.size, 0, none⟩) 1 1) [x] := by
  refine SlR.of_block (L := [x]) (heap_alloc_new w _) (Nat.le_refl _) (by unfold maxLen; simp) hlo (by omega) (fun y hy => by simp at hy; subst hy; exact hk) ?_
  simp [List.take_of_length_le, hk]
end

section
variable {P : Program} {α : Type} {enc : α → List Value} (w : World)

theorem run_app {t ty e : TypeId} {k bytes base : Nat} (ti : TI P t e k bytes) {v : Value} {L M : List α} (hown : Own w base e k enc v L) {lo hi : Nat} {A : Option Addr} {m c : Nat}
    (hsrc : SlR w lo hi k enc (.slice A m c) M) (hk : ∀ x ∈ M, (enc x).length = k) (h1 : ∀ x ∈ M, ∀ u ∈ enc x, u.oneCell' = true)
    (h63 : L.length + M.length ≤ maxLen) (hbytes : (L.length + M.length) * bytes ≤ 140737488355328) (hbase : base ≤ w.heap.size) :
    ∃ v' w', (Builtin.append_ #[t, t] ty #[v, .slice A m c]).run P w = .ok v' w' ∧ Own w' base e k enc v' (L ++ M) ∧ w.grownBy w' v.ownBlock ∧ (v'.ownBlock = v.ownBlock ∨ v'.ownBlock = some w.heap.size) := by
  obtain ⟨ht, i, z, hi0, hz0, hz1, hz2, hz3, hz4⟩ := ti
  obtain ⟨a', c', e', s1, s2, s3⟩ := hsrc
  injection e' with e1 e2 e3
  subst e1; subst e2; subst e3
  have hnl : (M.flatMap enc).length = M.length * k := flatMap_len M hk
  have fin : ∀ v' w', w'.ownsRow base e k v' (L.length + M.length) (L.flatMap enc ++ M.flatMap enc) → Own w' base e k enc v' (L ++ M) := fun v' w' h => by
    unfold Own; rw [List.length_append, List.flatMap_append]; exact h
  rcases A with _ | ad
  · have hM : M = [] := by
      cases M with
      | nil => rfl
      | cons x M => obtain ⟨b, o, h, _⟩ := s3 0 (by simp); cases h
    subst hM
    refine ⟨v, w, ?_, by simpa using hown, World.grownBy.refl w _, .inl rfl⟩
    rcases hown.2 with ⟨rfl, _⟩ | ⟨g, cap, cur, rfl, _, _, hnc, _⟩
    · simp [Builtin.append_, run_underlying ht, Go.sizeOf, typeInfo, hi0, Builtin.lenOf, Builtin.firstCells]
    · simp [Builtin.append_, run_underlying ht, Go.sizeOf, typeInfo, hi0, Builtin.lenOf, Builtin.firstCells, hnc, storeCells]
  · have hcells : ∀ j u, (M.flatMap enc)[j]? = some u → w.cell? (ad.add j) = some u := by
      intro j u hu
      have hj : j < M.length * k := by rw [← hnl]; exact (List.getElem?_eq_some_iff.1 hu).1
      have hi : j / k < M.length := Nat.div_lt_of_lt_mul (by rw [Nat.mul_comm]; exact hj)
      have hmod : j % k < k := Nat.mod_lt _ hz4
      obtain ⟨b, o, h, _, hc⟩ := s3 (j / k) hi
      injection h with h
      subst h
      have hjk : j / k * k + j % k = j := by rw [Nat.mul_comm]; exact Nat.div_add_mod j k
      have hel : (enc M[j / k])[j % k]? = some u := by
        have hlt : j % k < (enc M[j / k]).length := by rw [hk _ (List.getElem_mem hi)]; exact hmod
        have h2 := flatMap_get hk hi (List.getElem?_eq_getElem hlt)
        rw [hjk, hu] at h2
        rw [List.getElem?_eq_getElem hlt]; exact h2.symm
      have h3 := hc (j % k) u hel
      rw [Nat.add_assoc, hjk] at h3
      unfold Addr.add
      split
      · rename_i h0; subst h0; simpa using h3
      · exact h3
    obtain ⟨v', w', hrun, h2, h3, _, h5⟩ := run_append_own_at (P := P) w base t ty e i z k bytes ht hi0 hz0 hz1 hz2 hz3 hz4 v _ _ hown ad M.length c (M.flatMap enc) hnl hcells
      (fun u hu => by obtain ⟨x, hx, hu⟩ := List.mem_flatMap.1 hu; exact h1 x hx u hu) h63 hbytes hbase
    exact ⟨v', w', hrun, fin _ _ h2, h3, h5⟩

theorem wp_app {o : Oper} {a : Act} {K : Act → World → Prop} {Q : Exit → Act → World → Prop} (s x : Operand) {t e : TypeId} {k bytes base : Nat} (ti : TI P t e k bytes)
    (ho : o.op = .call { callee := .builtin .append, args := #[s, x], argTypes := #[t, t] }) {v : Value} {L M : List α} (hs : a.eval s = v) (hown : Own w base e k enc v L) {lo hi : Nat} {A : Option Addr} {m c : Nat}
    (hx : a.eval x = .slice A m c) (hsrc : SlR w lo hi k enc (.slice A m c) M) (hk : ∀ x ∈ M, (enc x).length = k) (h1 : ∀ x ∈ M, ∀ u ∈ enc x, u.oneCell' = true)
    (h63 : L.length + M.length ≤ maxLen) (hbytes : (L.length + M.length) * bytes ≤ 140737488355328) (hbase : base ≤ w.heap.size)
    (h : ∀ v' w', Own w' base e k enc v' (L ++ M) → w.grownBy w' v.ownBlock → (v'.ownBlock = v.ownBlock ∨ v'.ownBlock = some w.heap.size) → K (a.put o.dst v') w') : o.wp P a w K Q := by
  obtain ⟨v', w', hrun, h2, h3, h4⟩ := run_app (ty := o.type) w ti hown hsrc hk h1 h63 hbytes hbase
  unfold Oper.wp execOp
  simp only [ho, resolve, invoke, builtin, Sem.run_bind, Sem.run_pure, Result.andThen_ok, List.map_toArray, List.map_cons, List.map_nil, hs, hx, hrun]
  exact h v' w' h2 h3 h4

theorem wpList_app {ops : Array Oper} {rest : List Oper} {o : Oper} {a : Act} {Q : Exit → Act → World → Prop} (hgd : o.guard = none) (s x : Operand) {t e : TypeId} {k bytes base : Nat} (ti : TI P t e k bytes)
    (ho : o.op = .call { callee := .builtin .append, args := #[s, x], argTypes := #[t, t] }) {v : Value} {L M : List α} (hs : a.eval s = v) (hown : Own w base e k enc v L) {lo hi : Nat} {A : Option Addr} {m c : Nat}
    (hx : a.eval x = .slice A m c) (hsrc : SlR w lo hi k enc (.slice A m c) M) (hk : ∀ x ∈ M, (enc x).length = k) (h1 : ∀ x ∈ M, ∀ u ∈ enc x, u.oneCell' = true)
    (h63 : L.length + M.length ≤ maxLen) (hbytes : (L.length + M.length) * bytes ≤ 140737488355328) (hbase : base ≤ w.heap.size)
    (h : ∀ v' w', Own w' base e k enc v' (L ++ M) → w.grownBy w' v.ownBlock → (v'.ownBlock = v.ownBlock ∨ v'.ownBlock = some w.heap.size) → wpList P ops Q rest (a.put o.dst v') w') : wpList P ops Q (o :: rest) a w :=
  wpList_plain hgd fun _ hK => wp_app w s x ti ho hs hown hx hsrc hk h1 h63 hbytes hbase fun v' w' h2 h3 h4 => hK _ _ (h v' w' h2 h3 h4)

theorem step_app {ops : Array Oper} {o : Oper} {a : Act} {K : Act → World → Prop} {Q : Exit → Act → World → Prop} {E : Prop} (hgd : o.guard = none) (s x : Operand) {t e : TypeId} {k bytes base : Nat} (ti : TI P t e k bytes)
    (ho : o.op = .call { callee := .builtin .append, args := #[s, x], argTypes := #[t, t] }) {v : Value} {L M : List α} (hs : a.eval s = v) (hown : Own w base e k enc v L) {lo hi : Nat} {A : Option Addr} {m c : Nat}
    (hx : a.eval x = .slice A m c) (hsrc : SlR w lo hi k enc (.slice A m c) M) (hk : ∀ x ∈ M, (enc x).length = k) (h1 : ∀ x ∈ M, ∀ u ∈ enc x, u.oneCell' = true)
    (h63 : L.length + M.length ≤ maxLen) (hbytes : (L.length + M.length) * bytes ≤ 140737488355328) (hbase : base ≤ w.heap.size)
    (h : ∀ v' w', Own w' base e k enc v' (L ++ M) → w.grownBy w' v.ownBlock → (v'.ownBlock = v.ownBlock ∨ v'.ownBlock = some w.heap.size) → K (a.put o.dst v') w') :
    if Region.wanted o (yielded ops a.tmps) = true then Oper.wp P o a w K Q else E := by
  have hw : Region.wanted o (yielded ops a.tmps) = true := by simp [Region.wanted, hgd]
  rw [if_pos hw]
  exact wp_app w s x ti ho hs hown hx hsrc hk h1 h63 hbytes hbase h
end
end Imp
