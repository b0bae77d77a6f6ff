/-
  Plain facts on names, further: parents, names above, relative names, names resolved. No program in sight.
-/
import Derived.Test.YthjegibkbpafeaaDoorZ1
namespace Imp
open Go

theorem spl_part {l : List UInt8} (h : vPart l = true) : spl l = [l] := spl_nodot (vPart_noDot h)
theorem vName_part {l : List UInt8} (h : vPart l = true) : vName l = true := by
  unfold vName; rw [spl_part h]; simp [h]
theorem fParts_part {l : List UInt8} (h : vPart l = true) : fParts l = [l] := by
  unfold fParts; rw [vName_part h, spl_part h]; rfl
theorem vPart_dot (l : List UInt8) : vPart (l ++ [46]) = false := by
  cases h : vPart (l ++ [46])
  · rfl
  · exact absurd (by simp) (vPart_noDot h)
theorem vName_dot (l : List UInt8) : vName (l ++ [46]) = false := by
  cases h : vName (l ++ [46])
  · rfl
  · unfold vName at h
    rw [show l ++ [46] = l ++ 46 :: [] from rfl, spl_append, Bool.and_eq_true, List.all_eq_true] at h
    have := h.1 [] (by simp [spl])
    simp [vPart] at this
theorem vName_parts {l : List UInt8} (h : vName l = true) : (spl l).length ≤ 3 ∧ ∀ p ∈ spl l, vPart p = true := by
  unfold vName at h
  rw [Bool.and_eq_true, List.all_eq_true] at h
  exact ⟨of_decide_eq_true h.2, h.1⟩
theorem vName_jn {P : List (List UInt8)} (h : P ≠ []) (h3 : P.length ≤ 3) (hp : ∀ p ∈ P, vPart p = true) : vName (jn P) = true := by
  unfold vName
  rw [spl_jn h (fun p hm => vPart_noDot (hp p hm)), Bool.and_eq_true, List.all_eq_true]
  exact ⟨hp, decide_eq_true h3⟩
theorem spl_pos (l : List UInt8) : 1 ≤ (spl l).length := by
  have := spl_ne l
  cases e : spl l with
  | nil => exact absurd e this
  | cons x r => simp
theorem getLastD_eq {l : List (List UInt8)} (h : l ≠ []) : l.getLastD [] = l.getLast h := by
  cases l with
  | nil => exact absurd rfl h
  | cons x r => rfl
/-- A name is one part, or a name, a dot and a part. -/
theorem vName_cases {l : List UInt8} (h : vName l = true) : (vPart l = true ∧ parentP l = [] ∧ lastP l = l) ∨
    (vName (parentP l) = true ∧ vPart (lastP l) = true ∧ l = parentP l ++ 46 :: lastP l ∧ (spl (parentP l)).length + 1 = (spl l).length) := by
  obtain ⟨h3, hp⟩ := vName_parts h
  have hne := spl_ne l
  have hl : l = jn (spl l) := (jn_spl l).symm
  have hsplit : spl l = (spl l).dropLast ++ [lastP l] := by
    unfold lastP
    rw [getLastD_eq hne]
    exact (List.dropLast_concat_getLast hne).symm
  by_cases h1 : (spl l).dropLast = []
  · left
    rw [h1, List.nil_append] at hsplit
    have e : lastP l = l := by
      have : jn (spl l) = lastP l := by rw [hsplit]; rfl
      rw [← this, jn_spl]
    refine ⟨?_, by unfold parentP; rw [h1]; rfl, e⟩
    rw [← e]
    exact hp _ (by rw [hsplit]; simp)
  · right
    have hpp : ∀ p ∈ (spl l).dropLast, vPart p = true := fun p hm => hp p (List.dropLast_subset _ hm)
    have hlen : (spl l).dropLast.length + 1 = (spl l).length := by rw [List.length_dropLast]; have := spl_pos l; omega
    have hs2 : spl (parentP l) = (spl l).dropLast := spl_jn h1 (fun p hm => vPart_noDot (hpp p hm))
    refine ⟨vName_jn h1 (by omega) hpp, hp _ (by rw [hsplit]; simp), ?_, by rw [hs2]; exact hlen⟩
    show l = jn (spl l).dropLast ++ 46 :: lastP l
    rw [← jn_snoc _ _ h1, ← hsplit, jn_spl]

theorem parent_pkg {l : List UInt8} (h : vName l = true) : vPkg (parentP l) = true := by
  rcases vName_cases h with ⟨_, e, _⟩ | ⟨e, _⟩
  · rw [e]; rfl
  · unfold vPkg; rw [e, Bool.or_true]
theorem last_part {l : List UInt8} (h : vName l = true) : vPart (lastP l) = true := by
  rcases vName_cases h with ⟨e, _, e2⟩ | ⟨_, e, _⟩
  · rw [e2]; exact e
  · exact e
theorem child_last {l : List UInt8} (h : vName l = true) : childP (parentP l) (lastP l) = l := by
  rcases vName_cases h with ⟨_, e, e2⟩ | ⟨e, _, e2, _⟩
  · rw [e, e2]; rfl
  · unfold childP
    have hne := vName_ne e
    cases he : parentP l with
    | nil => exact absurd he hne
    | cons x r => rw [← he]; simp only [List.isEmpty_cons, he]; simp only [Bool.false_eq_true, if_false]; rw [← he]; exact e2.symm
theorem fChild_last {l : List UInt8} (h : vName l = true) : fChild (parentP l) (lastP l) = l := by
  unfold fChild
  rw [parent_pkg h, last_part h, child_last h, h]; rfl
theorem parent_child {p s : List UInt8} (hs : vPart s = true) : parentP (childP p s) = p ∧ lastP (childP p s) = s := by
  unfold childP
  have hd := vPart_noDot hs
  cases p with
  | nil => exact ⟨parentP_nodot hd, lastP_nodot hd⟩
  | cons x r => exact ⟨parentP_eq hd, lastP_eq hd⟩
theorem fChild_some {p s : List UInt8} (h : fChild p s ≠ []) : vPkg p = true ∧ vPart s = true ∧ vName (childP p s) = true ∧ fChild p s = childP p s := by
  unfold fChild at *
  split at h
  · rename_i h1
    rw [if_pos h1]
    simp only [Bool.and_eq_true] at h1
    exact ⟨h1.1.1, h1.1.2, h1.2, rfl⟩
  · exact absurd rfl h
theorem under_parent {l : List UInt8} (h : vName l = true) : fUnder l (parentP l) = true := by
  unfold fUnder
  rw [h, parent_pkg h, underP]
  rcases vName_cases h with ⟨_, e, _⟩ | ⟨_, _, e2, _⟩
  · rw [e]; rfl
  · have : (parentP l ++ [46]).isPrefixOf l = true := by
      rw [List.isPrefixOf_iff_prefix]
      exact ⟨lastP l, by conv => rhs; rw [e2]
                         simp⟩
    rw [this]; simp
theorem fParts_parent {l : List UInt8} (h : vName l = true) : (fParts (parentP l)).length + 1 = (fParts l).length := by
  have e : fParts l = spl l := by unfold fParts; rw [h]; rfl
  rw [e]
  rcases vName_cases h with ⟨e1, e2, _⟩ | ⟨e1, _, _, e3⟩
  · rw [e2, spl_part e1]; rfl
  · unfold fParts; rw [e1]; exact e3
theorem fParts_last {l : List UInt8} (h : vName l = true) : ∃ h2 : (fParts l).length - 1 < (fParts l).length, (fParts l)[(fParts l).length - 1] = lastP l := by
  have e : fParts l = spl l := by unfold fParts; rw [h]; rfl
  simp only [e]
  have hp := spl_pos l
  refine ⟨by omega, ?_⟩
  unfold lastP
  rw [getLastD_eq (spl_ne l), List.getLast_eq_getElem]

/-! ### Resolving -/
def upP : Nat → List UInt8 → List UInt8
  | 0, p => p
  | n + 1, p => upP n (parentP p)
theorem parentP_nil : parentP [] = [] := rfl
theorem upP_nil : ∀ n, upP n [] = []
  | 0 => rfl
  | n + 1 => by rw [upP, parentP_nil, upP_nil n]
theorem upP_pkg : ∀ n {p : List UInt8}, vPkg p = true → vPkg (upP n p) = true
  | 0, _, h => h
  | n + 1, p, h => by
    refine upP_pkg n ?_
    unfold vPkg at h
    rw [Bool.or_eq_true] at h
    rcases h with h | h
    · rw [List.isEmpty_iff] at h; subst h; rfl
    · exact parent_pkg h
def fResolve (p : List UInt8) (level : Int) (s : List UInt8) : List UInt8 :=
  if vPkg p && vPkg s && (decide (0 ≤ level) && decide (level ≤ 4)) then
    if level = 0 then s else
    let b := upP (level.toNat - 1) p
    if b.isEmpty then [] else
    let r := if s.isEmpty then b else b ++ 46 :: s
    if vName r then r else []
  else []

/-! ### Names above, the package in common -/
def aboveP (l : List UInt8) : List (List UInt8) := (List.range (spl l).length).map fun i => jn ((spl l).take (i + 1))
def fAbove (l : List UInt8) : List (List UInt8) := if vName l then aboveP l else []
theorem above_name {l : List UInt8} (h : vName l = true) : ∀ n ∈ aboveP l, vName n = true := by
  obtain ⟨h3, hp⟩ := vName_parts h
  intro n hn
  unfold aboveP at hn
  rw [List.mem_map] at hn
  obtain ⟨i, hi, rfl⟩ := hn
  rw [List.mem_range] at hi
  refine vName_jn (by intro e; have := congrArg List.length e; rw [List.length_take, List.length_nil] at this; omega) (by rw [List.length_take]; omega) (fun p hm => hp p (List.mem_of_mem_take hm))
def fCommon (a b : List UInt8) : List UInt8 := ((fAbove a).filter (fUnder b)).getLastD []

/-! ### Relative names -/
def relP : Nat → Nat → List UInt8 → List UInt8 → Nat × List UInt8
  | 0, _, _, _ => (0, [])
  | n + 1, lev, p, s => if p.isEmpty then (0, []) else if underP s p then (lev, (s.drop p.length).drop 1) else relP n (lev + 1) (parentP p) s
def fRel (p s : List UInt8) : Nat × List UInt8 := if vName p && vName s then relP 4 1 p s else (0, [])
theorem under_cases {s p : List UInt8} (hp : p ≠ []) (h : underP s p = true) : s = p ∨ ∃ r, s = p ++ 46 :: r := by
  unfold underP at h
  simp only [Bool.or_eq_true] at h
  rcases h with (h | h) | h
  · rw [List.isEmpty_iff] at h; exact absurd h hp
  · exact .inl (of_decide_eq_true h)
  · rw [List.isPrefixOf_iff_prefix] at h
    obtain ⟨r, hr⟩ := h
    exact .inr ⟨r, by rw [← hr]; simp⟩
end Imp

/-
  Walks on search paths: lists of ints.
-/
namespace Go.Proofs.YthjegibkbpafeaaDoor
open Go Go.RowKit Imp

theorem ret_int {a b : Int} (h : a = b) : Ending.returned (.int .i64 a) = .returned (.int .i64 b) := by rw [h]

end Go.Proofs.YthjegibkbpafeaaDoor
