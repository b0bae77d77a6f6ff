/-
  Plain facts on names, further: parents, names above, relative names, names resolved. No program in sight.
-/
import Derived.Test.YtepljjaienpepaaDoorZ1
namespace Imp
open Go

theorem spl_part {l : List UInt8} (h : vPart l = true) : spl l = [l] := spl_nodot (vPart_noDot h)
theorem vName_part {l : List UInt8} (h : vPart l = true) : vName l = true := by
  unfold vName; rw [spl_part h]; simp [h]
theorem fParts_part {l : List UInt8} (h : vPart l = true) : fParts l = [l] := by
  unfold fParts; rw [vName_part h, spl_part h]; rfl
theorem vPart_dot (l : List UInt8) : vPart (l ++ [46]) = false := by
  cases h : vPart (l ++ [46])
  · rfl
  · exact absurd (by simp) (vPart_noDot h)
theorem vName_dot (l : List UInt8) : vName (l ++ [46]) = false := by
  cases h : vName (l ++ [46])
  · rfl
  · unfold vName at h
    rw [show l ++ [46] = l ++ 46 :: [] from rfl, spl_append, Bool.and_eq_true, List.all_eq_true] at h
    have := h.1 [] (by simp [spl])
    simp [vPart] at this
theorem vName_parts {l : List UInt8} (h : vName l = true) : (spl l).length ≤ 3 ∧ ∀ p ∈ spl l, vPart p = true := by
  unfold vName at h
  rw [Bool.and_eq_true, List.all_eq_true] at h
  exact ⟨of_decide_eq_true h.2, h.1⟩
theorem vName_jn {P : List (List UInt8)} (h : P ≠ []) (h3 : P.length ≤ 3) (hp : ∀ p ∈ P, vPart p = true) : vName (jn P) = true := by
  unfold vName
  rw [spl_jn h (fun p hm => vPart_noDot (hp p hm)), Bool.and_eq_true, List.all_eq_true]
  exact ⟨hp, decide_eq_true h3⟩
theorem spl_pos (l : List UInt8) : 1 ≤ (spl l).length := by
  have := spl_ne l
  cases e : spl l with
  | nil => exact absurd e this
  | cons x r => simp
theorem getLastD_eq {l : List (List UInt8)} (h : l ≠ []) : l.getLastD [] = l.getLast h := by
  cases l with
  | nil => exact absurd rfl h
  | cons x r => rfl
/-- A name is one part, or a name, a dot and a part. -/
theorem vName_cases {l : List UInt8} (h : vName l = true) : (vPart l = true ∧ parentP l = [] ∧ lastP l = l) ∨
    (vName (parentP l) = true ∧ vPart (lastP l) = true ∧ l = parentP l ++ 46 :: lastP l ∧ (spl (parentP l)).length + 1 = (spl l).length) := by
  obtain ⟨h3, hp⟩ := vName_parts h
  have hne := spl_ne l
  have hl : l = jn (spl l) := (jn_spl l).symm
  have hsplit : spl l = (spl l).dropLast ++ [lastP l] := by
    unfold lastP
    rw [getLastD_eq hne]
    exact (List.dropLast_concat_getLast hne).symm
  by_cases h1 : (spl l).dropLast = []
  · left
    rw [h1, List.nil_append] at hsplit
    have e : lastP l = l := by
      have : jn (spl l) = lastP l := by rw [hsplit]; rfl
      rw [← this, jn_spl]
    refine ⟨?_, by unfold parentP; rw [h1]; rfl, e⟩
    rw [← e]
    exact hp _ (by rw [hsplit]; simp)
  · right
    have hpp : ∀ p ∈ (spl l).dropLast, vPart p = true := fun p hm => hp p (List.dropLast_subset _ hm)
    have hlen : (spl l).dropLast.length + 1 = (spl l).length := by rw [List.length_dropLast]; have := spl_pos l; omega
    have hs2 : spl (parentP l) = (spl l).dropLast := spl_jn h1 (fun p hm => vPart_noDot (hpp p hm))
    refine ⟨vName_jn h1 (by omega) hpp, hp _ (by rw [hsplit]; simp), ?_, by rw [hs2]; exact hlen⟩
    show l = jn (spl l).dropLast ++ 46 :: lastP l
    rw [← jn_snoc _ _ h1, ← hsplit, jn_spl]

theorem parent_pkg {l : List UInt8} (h : vName l = true) : vPkg (parentP l) = true := by
  rcases vName_cases h with ⟨_, e, _⟩ | ⟨e, _⟩
  · rw [e]; rfl
  · unfold vPkg; rw [e, Bool.or_true]
theorem last_part {l : List UInt8} (h : vName l = true) : vPart (lastP l) = true := by
  rcases vName_cases h with ⟨e, _, e2⟩ | ⟨_, e, _⟩
  · rw [e2]; exact e
  · exact e
theorem child_last {l : List UInt8} (h : vName l = true) : childP (parentP l) (lastP l) = l := by
  rcases vName_cases h with ⟨_, e, e2⟩ | ⟨e, _, e2, _⟩
  · rw [e, e2]; rfl
  · unfold childP
    have hne := vName_ne e
    cases he : parentP l with
    | nil => exact absurd he hne
    | cons x r => rw [← he]; simp only [List.isEmpty_cons, he]; simp only [Bool.false_eq_true, if_false]; rw [← he]; exact e2.symm
theorem fChild_last {l : List UInt8} (h : vName l = true) : fChild (parentP l) (lastP l) = l := by
  unfold fChild
  rw [parent_pkg h, last_part h, child_last h, h]; rfl
theorem parent_child {p s : List UInt8} (hs : vPart s = true) : parentP (childP p s) = p ∧ lastP (childP p s) = s := by
  unfold childP
  have hd := vPart_noDot hs
  cases p with
  | nil => exact ⟨parentP_nodot hd, lastP_nodot hd⟩
  | cons x r => exact ⟨parentP_eq hd, lastP_eq hd⟩
theorem fChild_some {p s : List UInt8} (h : fChild p s ≠ []) : vPkg p = true ∧ vPart s = true ∧ vName (childP p s) = true ∧ fChild p s = childP p s := by
  unfold fChild at *
  split at h
  · rename_i h1
    rw [if_pos h1]
    simp only [Bool.and_eq_true] at h1
    exact ⟨h1.1.1, h1.1.2, h1.2, rfl⟩
  · exact absurd rfl h
theorem under_parent {l : List UInt8} (h : vName l = true) : fUnder l (parentP l) = true := by
  unfold fUnder
  rw [h, parent_pkg h, underP]
  rcases vName_cases h with ⟨_, e, _⟩ | ⟨_, _, e2, _⟩
  · rw [e]; rfl
  · have : (parentP l ++ [46]).isPrefixOf l = true := by
      rw [List.isPrefixOf_iff_prefix]
      exact ⟨lastP l, by conv => rhs; rw [e2]
                         simp⟩
    rw [this]; simp
theorem fParts_parent {l : List UInt8} (h : vName l = true) : (fParts (parentP l)).length + 1 = (fParts l).length := by
  have e : fParts l = spl l := by unfold fParts; rw [h]; rfl
  rw [e]
  rcases vName_cases h with ⟨e1, e2, _⟩ | ⟨e1, _, _, e3⟩
  · rw [e2, spl_part e1]; rfl
  · unfold fParts; rw [e1]; exact e3
theorem fParts_last {l : List UInt8} (h : vName l = true) : ∃ h2 : (fParts l).length - 1 < (fParts l).length, (fParts l)[(fParts l).length - 1] = lastP l := by
  have e : fParts l = spl l := by unfold fParts; rw [h]; rfl
  simp only [e]
  have hp := spl_pos l
  refine ⟨by omega, ?_⟩
  unfold lastP
  rw [getLastD_eq (spl_ne l), List.getLast_eq_getElem]

/-! ### Resolving -/
def upP : Nat → List UInt8 → List UInt8
  | 0, p => p
  | n + 1, p => upP n (parentP p)
theorem parentP_nil : parentP [] = [] := rfl
theorem upP_nil : ∀ n, upP n [] = []
  | 0 => rfl
  | n + 1 => by rw [upP, parentP_nil, upP_nil n]
theorem upP_pkg : ∀ n {p : List UInt8}, vPkg p = true → vPkg (upP n p) = true
  | 0, _, h => h
  | n + 1, p, h => by
    refine upP_pkg n ?_
    unfold vPkg at h
    rw [Bool.or_eq_true] at h
    rcases h with h | h
    · rw [List.isEmpty_iff] at h; subst h; rfl
    · exact parent_pkg h
def fResolve (p : List UInt8) (level : Int) (s : List UInt8) : List UInt8 :=
  if vPkg p && vPkg s && (decide (0 ≤ level) && decide (level ≤ 4)) then
    if level = 0 then s else
    let b := upP (level.toNat - 1) p
    if b.isEmpty then [] else
    let r := if s.isEmpty then b else b ++ 46 :: s
    if vName r then r else []
  else []

/-! ### Names above, the package in common -/
def aboveP (l : List UInt8) : List (List UInt8) := (List.range (spl l).length).map fun i => jn ((spl l).take (i + 1))
def fAbove (l : List UInt8) : List (List UInt8) := if vName l then aboveP l else []
theorem above_name {l : List UInt8} (h : vName l = true) : ∀ n ∈ aboveP l, vName n = true := by
  obtain ⟨h3, hp⟩ := vName_parts h
  intro n hn
  unfold aboveP at hn
  rw [List.mem_map] at hn
  obtain ⟨i, hi, rfl⟩ := hn
  rw [List.mem_range] at hi
  refine vName_jn (by intro e; have := congrArg List.length e; rw [List.length_take, List.length_nil] at this; omega) (by rw [List.length_take]; omega) (fun p hm => hp p (List.mem_of_mem_take hm))
def fCommon (a b : List UInt8) : List UInt8 := ((fAbove a).filter (fUnder b)).getLastD []

/-! ### Relative names -/
def relP : Nat → Nat → List UInt8 → List UInt8 → Nat × List UInt8
  | 0, _, _, _ => (0, [])
  | n + 1, lev, p, s => if p.isEmpty then (0, []) else if underP s p then (lev, (s.drop p.length).drop 1) else relP n (lev + 1) (parentP p) s
def fRel (p s : List UInt8) : Nat × List UInt8 := if vName p && vName s then relP 4 1 p s else (0, [])
theorem under_cases {s p : List UInt8} (hp : p ≠ []) (h : underP s p = true) : s = p ∨ ∃ r, s = p ++ 46 :: r := by
  unfold underP at h
  simp only [Bool.or_eq_true] at h
  rcases h with (h | h) | h
  · rw [List.isEmpty_iff] at h; exact absurd h hp
  · exact .inl (of_decide_eq_true h)
  · rw [List.isPrefixOf_iff_prefix] at h
    obtain ⟨r, hr⟩ := h
    exact .inr ⟨r, by rw [← hr]; simp⟩
end Imp

/-
  Walks on search paths: lists of ints.
-/
namespace Go.Proofs.YtepljjaienpepaaDoor
open Go Go.RowKit Imp

theorem ret_int {a b : Int} (h : a = b) : Ending.returned (.int .i64 a) = .returned (.int .i64 b) := by rw [h]

end Go.Proofs.YtepljjaienpepaaDoor

/-
  Walks: the reader of pseudo-random numbers: it returns some number of the range, whatever the code.
-/
namespace Go.Proofs.YtepljjaienpepaaDoor
open Go Go.RowKit Imp

/-- Block 'g' is a reader that has been asked 'p' times. -/
def Rdr (w : World) (g p : Nat) : Prop := ∃ bv, ∃ L : List UInt8, w.heap[g]? = some (.cells #[bv, .int .i64 (p : Int)] 49 (0, 0)) ∧ SlR w 0 g 1 eB bv L ∧ p ≤ 1000000000 ∧ L.length ≤ 1048576

theorem heap_alloc_if (w : World) (o : Obj) (k : Nat) : (w.alloc o).heap[k]? = if k = w.heap.size then some o else w.heap[k]? := by
  show (w.heap.push o)[k]? = _
  rw [Array.getElem?_push]

theorem Rdr.lt {w : World} {g p : Nat} (h : Rdr w g p) : g < w.heap.size := by
  obtain ⟨bv, L, hg, _⟩ := h
  exact (Array.getElem?_eq_some_iff.1 hg).1

theorem newReader_any {lo hi : Nat} (v : Value) (L : List UInt8) (w : World) (hv : SlR w lo hi 1 eB v L) (hhi : hi ≤ w.heap.size) (hl : L.length ≤ 1048576) :
    Calls Tryd.prog 11 #[v] w fun e w' => e = .returned (.pointer (some ⟨w.heap.size, 0, none⟩)) ∧ Rdr w' w.heap.size 0 ∧ w'.heap.size = w.heap.size + 1 ∧ Below w.heap.size w w' := by
  have hv0 := hv
  obtain ⟨a, c, rfl, h1, h2⟩ := hv.form
  by_cases hb : L.length ≤ 2000
  · go_enter Tryd.func11, Tryd.ntmps11
    go_wp2
    go_ret
    refine ⟨rfl, ⟨_, L, heap_alloc_new w _, (hv0.keep (Same.alloc _ _ hhi)).mono (Nat.zero_le _) hhi, by omega, hl⟩, by simp, (Below.refl _ _).alloc (Nat.le_refl _) _⟩
  · have hv1 := hv0.take 2000 (by omega)
    go_enter Tryd.func11, Tryd.ntmps11
    go_wp2
    go_ret
    refine ⟨rfl, ⟨_, L.take 2000, heap_alloc_new w _, (hv1.keep (Same.alloc _ _ hhi)).mono (Nat.zero_le _) hhi, by omega, by simp; omega⟩, by simp, (Below.refl _ _).alloc (Nat.le_refl _) _⟩

theorem pick_low (g p : Nat) (n : Int) (w : World) (h : Rdr w g p) (hp : p < 1000000000) (hn : n < 1) :
    Calls Tryd.prog 25 #[.pointer (some ⟨g, 0, none⟩), .int .i64 n] w fun e w' => e = .returned (.int .i64 0) ∧ w' = w.setCell ⟨g, 1, none⟩ (.int .i64 (p + 1 : Nat)) := by
  obtain ⟨bv, L, hg, hL, _, hl⟩ := h
  have c1 : w.cell? ⟨g, 1, none⟩ = some (.int .i64 p) := by rw [cell_of_row w g 1 _ _ _ hg]; rfl
  have f1 : w.frozen? ⟨g, 1, none⟩ = false := frozen_of_row w g 1 _ _ hg
  clear hg
  go_enter Tryd.func25, Tryd.ntmps25
  go_wp2
  go_ret
  exact ⟨rfl, by rfl⟩
theorem tmod_range {x n : Int} (h : 0 ≤ x) (hn : 1 ≤ n) : 0 ≤ x.tmod n ∧ x.tmod n < n := ⟨Int.tmod_nonneg _ h, Int.tmod_lt_of_pos _ (by omega)⟩
theorem byte_small (b : UInt8) : -9223372036854775808 ≤ (b.toNat : Int) ∧ (b.toNat : Int) ≤ 9223372036854775807 := by have := b.toNat_lt; omega

theorem xor_nonneg (x y : Int) (h1 : 0 ≤ x) (h2 : x < 4611686018427387904) (h3 : 0 ≤ y) (h4 : y < 4611686018427387904) : 0 ≤ bits .xor .i64 x y := by
  obtain ⟨a, rfl⟩ := Int.eq_ofNat_of_zero_le h1
  obtain ⟨b, rfl⟩ := Int.eq_ofNat_of_zero_le h3
  have hx : a ^^^ b < 2 ^ 62 := Nat.xor_lt_two_pow (by omega) (by omega)
  have e1 : (BitVec.ofInt 64 (a : Int)).toNat = a := by
    rw [BitVec.ofInt_natCast, BitVec.toNat_ofNat]; exact Nat.mod_eq_of_lt (by omega)
  have e2 : (BitVec.ofInt 64 (b : Int)).toNat = b := by
    rw [BitVec.ofInt_natCast, BitVec.toNat_ofNat]; exact Nat.mod_eq_of_lt (by omega)
  show 0 ≤ IntKind.i64.wrap ((BitVec.ofInt 64 (a : Int) ^^^ BitVec.ofInt 64 (b : Int)).toNat : Int)
  rw [BitVec.toNat_xor, e1, e2, IntKind.wrap_i64]
  omega

/-- What a pick leaves: a number of the range, and the reader asked once more. -/
def Picked (w : World) (g p : Nat) (n : Int) (e : Ending) (w' : World) : Prop :=
  ∃ k : Int, e = .returned (.int .i64 k) ∧ 0 ≤ k ∧ (1 ≤ n → k < n) ∧ (n < 1 → k = 0) ∧ ∃ m, w' = (w.setCell ⟨g, 1, none⟩ (.int .i64 (p + 1 : Nat))).drewN m

theorem pick_pos (g p : Nat) (n : Int) (w : World) (h : Rdr w g p) (hp : p < 1000000000) (hn : 1 ≤ n) (hn2 : n ≤ 1000000000) :
    Calls Tryd.prog 25 #[.pointer (some ⟨g, 0, none⟩), .int .i64 n] w (Picked w g p n) := by
  obtain ⟨bv, L, hg, hL, _, hl⟩ := h
  have c0 : w.cell? ⟨g, 0, none⟩ = some bv := by rw [cell_of_row w g 0 _ _ _ hg]; rfl
  have c1 : w.cell? ⟨g, 1, none⟩ = some (.int .i64 p) := by rw [cell_of_row w g 1 _ _ _ hg]; rfl
  have f1 : w.frozen? ⟨g, 1, none⟩ = false := frozen_of_row w g 1 _ _ hg
  obtain ⟨a, c, rfl, h1, h2, h3⟩ := hL
  unfold maxLen at h2
  clear hg
  by_cases h0 : L.length = 0
  · have e0 : ((L.length : Int) == 0) = true := by simp [h0]
    go_enter Tryd.func25, Tryd.ntmps25
    go_wp2
    go_ret
    exact ⟨0, rfl, by omega, fun _ => by omega, fun _ => rfl, 0, rfl⟩
  · have e0 : ((L.length : Int) == 0) = false := by rw [beq_eq_false_iff_ne]; omega
    by_cases hk : p < L.length
    · obtain ⟨b, o, rfl, hb, hc⟩ := h3 p hk
      have cb : w.cell? ⟨b, o + p, none⟩ = some (.int .u8 L[p].toNat) := by have := hc 0 _ rfl; simpa using this
      have hbg : (⟨b, o + p, none⟩ : Addr) ≠ ⟨g, 1, none⟩ := by intro e; injection e with e1; omega
      have cb2 : (w.setCell ⟨g, 1, none⟩ (.int .i64 ((p : Int) + 1))).cell? ⟨b, o + p, none⟩ = some (.int .u8 L[p].toNat) := by rw [World.cell?_setCell_other _ _ _ _ hbg.symm]; exact cb
      clear hc h3 hbg
      go_enter Tryd.func25, Tryd.ntmps25
      go_wp2
      go_ret
      rw [IntWalk.wrap64_in _ (byte_small _)]
      exact ⟨_, rfl, (tmod_range (by omega) hn).1, fun _ => (tmod_range (by omega) hn).2, fun _ => by omega, 0, rfl⟩
    · have hm1 : p % L.length < L.length := Nat.mod_lt _ (by omega)
      have hm2 : (p * 7 + 3) % L.length < L.length := Nat.mod_lt _ (by omega)
      obtain ⟨b, o, rfl, hb, hc1⟩ := h3 _ hm1
      obtain ⟨b', o', e', hb', hc2⟩ := h3 _ hm2
      injection e' with e'
      injection e' with e1 e2
      subst e1; subst e2
      have cb1 : w.cell? ⟨b, o + p % L.length, none⟩ = some (.int .u8 L[p % L.length].toNat) := by have := hc1 0 _ rfl; simpa using this
      have cb2 : w.cell? ⟨b, o + (p * 7 + 3) % L.length, none⟩ = some (.int .u8 L[(p * 7 + 3) % L.length].toNat) := by have := hc2 0 _ rfl; simpa using this
      have n1 : (⟨g, 1, none⟩ : Addr) ≠ ⟨b, o + p % L.length, none⟩ := by intro e; injection e with e1; omega
      have n2 : (⟨g, 1, none⟩ : Addr) ≠ ⟨b, o + (p * 7 + 3) % L.length, none⟩ := by intro e; injection e with e1; omega
      have d1 : (w.setCell ⟨g, 1, none⟩ (.int .i64 ((p : Int) + 1))).cell? ⟨b, o + p % L.length, none⟩ = some (.int .u8 L[p % L.length].toNat) := by rw [World.cell?_setCell_other _ _ _ _ n1]; exact cb1
      have d2 : (w.setCell ⟨g, 1, none⟩ (.int .i64 ((p : Int) + 1))).cell? ⟨b, o + (p * 7 + 3) % L.length, none⟩ = some (.int .u8 L[(p * 7 + 3) % L.length].toNat) := by rw [World.cell?_setCell_other _ _ _ _ n2]; exact cb2
      generalize hx1 : L[p % L.length].toNat = x1 at *
      generalize hx2 : L[(p * 7 + 3) % L.length].toNat = x2 at *
      have hx1' : x1 < 256 := by rw [← hx1]; exact UInt8.toNat_lt _
      have hx2' : x2 < 256 := by rw [← hx2]; exact UInt8.toNat_lt _
      clear hc1 hc2 h3 n1 n2 hx1 hx2
      have q1 : 0 ≤ (p : Int) % (L.length : Int) := Int.emod_nonneg _ (by omega)
      have q2 : (p : Int) % (L.length : Int) < (L.length : Int) := Int.emod_lt_of_pos _ (by omega)
      have q3 : 0 ≤ ((p : Int) * 7 + 3) % (L.length : Int) := Int.emod_nonneg _ (by omega)
      have q4 : ((p : Int) * 7 + 3) % (L.length : Int) < (L.length : Int) := Int.emod_lt_of_pos _ (by omega)
      have q5 : 0 ≤ (p : Int) / (L.length : Int) := Int.ediv_nonneg (by omega) (by omega)
      have q6 : (p : Int) / (L.length : Int) ≤ (p : Int) := Int.ediv_le_self _ (by omega)
      go_enter Tryd.func25, Tryd.ntmps25
      go_wp2
      go_quiet (fail)
      go_wp2
      go_ret
      have hx0 : 0 ≤ (x1 : Int) * 131 + (x2 : Int) * 1117 + (p : Int) * 29 + (p : Int) / (L.length : Int) * 53 := by omega
      have hx := xor_nonneg _ (((x1 : Int) * 131 + (x2 : Int) * 1117 + (p : Int) * 29 + (p : Int) / (L.length : Int) * 53) / 64) hx0 (by omega) (by omega) (by omega)
      exact ⟨_, rfl, (tmod_range hx hn).1, fun _ => (tmod_range hx hn).2, fun _ => by omega, _, rfl⟩

/-- A call of 'pick': some number of the range; the reader has been asked once more; nothing else has turned. -/
theorem pick_any (g p : Nat) (n : Int) (w : World) (h : Rdr w g p) (hp : p < 1000000000) (hn : n ≤ 1000000000) :
    Calls Tryd.prog 25 #[.pointer (some ⟨g, 0, none⟩), .int .i64 n] w fun e w' => ∃ k : Int, e = .returned (.int .i64 k) ∧ 0 ≤ k ∧ (1 ≤ n → k < n) ∧ Rdr w' g (p + 1) ∧ w.grownBy w' (some g) := by
  have h0 : Calls Tryd.prog 25 #[.pointer (some ⟨g, 0, none⟩), .int .i64 n] w (Picked w g p n) := by
    by_cases h1 : 1 ≤ n
    · exact pick_pos g p n w h hp h1 hn
    · exact (pick_low g p n w h hp (by omega)).mono fun e w' ⟨he, hw⟩ => ⟨0, he, by omega, fun _ => by omega, fun _ => rfl, 0, hw⟩
  refine h0.mono fun e w' ⟨k, he, hk0, hk1, _, m, hw⟩ => ⟨k, he, hk0, hk1, ?_, ?_⟩
  · obtain ⟨bv, L, hg, hL, _, hl⟩ := h
    subst hw
    refine ⟨bv, L, ?_, hL.keep (fun b h1 h2 => ?_), by omega, hl⟩
    · exact (heap_setCell_same w g 1 _ _ _ hg)
    · exact Below.heap_setCell w _ _ b (by show b ≠ g; omega)
  · subst hw
    exact ⟨rfl, rfl, rfl, by simp [World.setCell, World.drewN], fun b _ hb => Below.heap_setCell w _ _ b (by intro e; subst e; exact hb rfl)⟩

theorem grown_trans {a b c : World} {g : Option Nat} (h : a.grownBy b g) (k : b.grownBy c g) : a.grownBy c g :=
  ⟨k.os.trans h.os, k.tape.trans h.tape, k.output.trans h.output, Nat.le_trans h.size k.size, fun i hi hne => (k.block i (Nat.lt_of_lt_of_le hi h.size) hne).trans (h.block i hi hne)⟩

end Go.Proofs.YtepljjaienpepaaDoor
