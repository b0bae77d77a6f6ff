/-
  Plain facts on names: a text falls apart at its dots; names, parents, children, packages. No program in sight.
-/
import Derived.Test.YtomndnlpogikdaaDoorPlainB
import Derived.Lib.Split
import Derived.Lib.SplitLaws
import Derived.Lib.LastIndexByte
import Derived.Lib.Strings
namespace Imp
open Go

/-- A string of these bytes. -/
abbrev mk (l : List UInt8) : ByteArray := ⟨l.toArray⟩
theorem bs_mk (l : List UInt8) : bs (mk l) = l := rfl
theorem mk_bs (s : ByteArray) : mk (bs s) = s := Lib.mk_data s
theorem mk_size (l : List UInt8) : (mk l).size = l.length := by rw [Lib.size_eq]
theorem eq_mk {s : ByteArray} {l : List UInt8} (h : bs s = l) : s = mk l := by subst h; exact (mk_bs s).symm
theorem mk_inj {a b : List UInt8} (h : mk a = mk b) : a = b := by have := congrArg bs h; rwa [bs_mk, bs_mk] at this
theorem extract_mk (l : List UInt8) (a b : Nat) : (mk l).extract a b = mk ((l.drop a).take (b - a)) := by rw [Lib.extract_eq]
theorem append_mk (a b : List UInt8) : mk a ++ mk b = mk (a ++ b) := eq_mk (by simp [bs])

/-! ### Dots -/
def spl : List UInt8 → List (List UInt8)
  | [] => [[]]
  | c :: t => if c == 46 then [] :: spl t else (c :: (spl t).headD []) :: (spl t).tail

theorem spl_ne : ∀ l, spl l ≠ []
  | [] => by simp [spl]
  | c :: t => by unfold spl; split <;> simp

theorem spl_nodot : ∀ {p : List UInt8}, (46 : UInt8) ∉ p → spl p = [p]
  | [], _ => rfl
  | c :: t, h => by
    rw [List.mem_cons, not_or] at h
    have hc : (c == 46) = false := beq_eq_false_iff_ne.2 (fun e => h.1 e.symm)
    rw [spl, hc, spl_nodot h.2]; rfl

/-- A text around a dot: the pieces of both sides. -/
theorem spl_append : ∀ (a b : List UInt8), spl (a ++ 46 :: b) = spl a ++ spl b
  | [], b => by simp [spl]
  | c :: t, b => by
    rw [List.cons_append, spl, spl, spl_append t b]
    have := spl_ne t
    cases e : spl t with
    | nil => exact absurd e this
    | cons x r => split <;> simp

theorem spl_dot {p : List UInt8} (h : (46 : UInt8) ∉ p) (r : List UInt8) : spl (p ++ 46 :: r) = p :: spl r := by
  rw [spl_append, spl_nodot h]; rfl

theorem spl_parts : ∀ (l : List UInt8), ∀ p ∈ spl l, (46 : UInt8) ∉ p
  | [], p, h => by simp [spl] at h; subst h; simp
  | c :: t, p, h => by
    have ih := spl_parts t
    unfold spl at h
    split at h
    · rw [List.mem_cons] at h
      rcases h with rfl | h
      · simp
      · exact ih p h
    · rename_i hc
      rw [List.mem_cons] at h
      rcases h with rfl | h
      · rw [List.mem_cons, not_or]
        refine ⟨fun e => hc (by simp [← e]), ?_⟩
        cases e : spl t with
        | nil => simp
        | cons x r => simpa using ih x (by rw [e]; simp)
      · exact ih p (List.mem_of_mem_tail h)

/-- Pieces with dots between them. -/
def jn : List (List UInt8) → List UInt8
  | [] => []
  | [p] => p
  | p :: q :: r => p ++ 46 :: jn (q :: r)

theorem jn_cons {p : List UInt8} {r : List (List UInt8)} (h : r ≠ []) : jn (p :: r) = p ++ 46 :: jn r := by
  cases r with
  | nil => exact absurd rfl h
  | cons q r => rfl

theorem spl_jn : ∀ {ps : List (List UInt8)}, ps ≠ [] → (∀ p ∈ ps, (46 : UInt8) ∉ p) → spl (jn ps) = ps
  | [p], _, h => spl_nodot (h p (by simp))
  | p :: q :: r, _, h => by
    rw [jn_cons (by simp), spl_dot (h p (by simp)), spl_jn (by simp) (fun x hx => h x (by simp only [List.mem_cons] at hx ⊢; exact .inr hx))]

theorem jn_head (c : UInt8) (x : List UInt8) (r : List (List UInt8)) : jn ((c :: x) :: r) = c :: jn (x :: r) := by
  cases r <;> rfl

theorem jn_spl : ∀ (l : List UInt8), jn (spl l) = l
  | [] => rfl
  | c :: t => by
    have ih := jn_spl t
    unfold spl
    split
    · rename_i hc
      rw [jn_cons (spl_ne t), ih]
      simp at hc; simp [hc]
    · cases e : spl t with
      | nil => exact absurd e (spl_ne t)
      | cons x r => rw [e] at ih; simp only [List.headD_cons, List.tail_cons]; rw [jn_head, ih]

theorem jn_snoc : ∀ (ps : List (List UInt8)) (p : List UInt8), ps ≠ [] → jn (ps ++ [p]) = jn ps ++ 46 :: p
  | [q], p, _ => rfl
  | q :: q' :: r, p, _ => by
    have e := jn_snoc (q' :: r) p (by simp)
    have e2 : jn (q :: q' :: r) = q ++ 46 :: jn (q' :: r) := rfl
    rw [List.cons_append, jn_cons (show (q' :: r) ++ [p] ≠ [] by simp), e, e2, List.append_assoc]; rfl

theorem spl_length_le (l : List UInt8) : (spl l).length ≤ l.length + 1 := by
  induction l with
  | nil => simp [spl]
  | cons c t ih =>
    unfold spl
    split
    · simp; omega
    · simp only [List.length_cons, List.length_tail]; omega

/-! ### Names -/
def vName (l : List UInt8) : Bool := (spl l).all vPart && decide ((spl l).length ≤ 3)
def vPkg (l : List UInt8) : Bool := l.isEmpty || vName l
def fParts (l : List UInt8) : List (List UInt8) := if vName l then spl l else []
def lastP (l : List UInt8) : List UInt8 := (spl l).getLastD []
def fLast (l : List UInt8) : List UInt8 := if vName l then lastP l else []
def parentP (l : List UInt8) : List UInt8 := jn (spl l).dropLast
def fParent (l : List UInt8) : List UInt8 := if vName l then parentP l else []
def childP (p s : List UInt8) : List UInt8 := if p.isEmpty then s else p ++ 46 :: s
def fChild (p s : List UInt8) : List UInt8 := if vPkg p && vPart s && vName (childP p s) then childP p s else []
def underP (s p : List UInt8) : Bool := p.isEmpty || decide (s = p) || (p ++ [46]).isPrefixOf s
def fUnder (s p : List UInt8) : Bool := vName s && vPkg p && underP s p

theorem vPart_noDot {l : List UInt8} (h : vPart l = true) : (46 : UInt8) ∉ l := by
  intro hm
  unfold vPart at h
  rw [Bool.and_eq_true, List.all_eq_true] at h
  have := h.1 46 hm
  simp [letB] at this
theorem vPart_ne {l : List UInt8} (h : vPart l = true) : l ≠ [] := by
  rintro rfl; simp [vPart] at h
theorem vPart_length {l : List UInt8} (h : vPart l = true) : 1 ≤ l.length ∧ l.length ≤ 3 := by
  unfold vPart at h
  rw [Bool.and_eq_true] at h
  exact of_decide_eq_true h.2
theorem vName_length {l : List UInt8} (h : vName l = true) : l.length ≤ 11 := by
  unfold vName at h
  rw [Bool.and_eq_true, List.all_eq_true] at h
  have h3 : (spl l).length ≤ 3 := of_decide_eq_true h.2
  have hp : ∀ p ∈ spl l, p.length ≤ 3 := fun p hp => (vPart_length (h.1 p hp)).2
  rw [← jn_spl l]
  match spl l, h3, hp with
  | [], _, _ => simp [jn]
  | [a], _, hp => have := hp a (by simp); simp [jn]; omega
  | [a, b], _, hp => have := hp a (by simp); have := hp b (by simp); simp [jn]; omega
  | [a, b, c], _, hp => have := hp a (by simp); have := hp b (by simp); have := hp c (by simp); simp [jn]; omega
  | _ :: _ :: _ :: _ :: _, h, _ => simp at h
theorem vName_ne {l : List UInt8} (h : vName l = true) : l ≠ [] := by
  rintro rfl; simp [vName, spl, vPart] at h
theorem vPkg_length {l : List UInt8} (h : vPkg l = true) : l.length ≤ 11 := by
  unfold vPkg at h
  rw [Bool.or_eq_true] at h
  rcases h with h | h
  · rw [List.isEmpty_iff] at h; subst h; simp
  · exact vName_length h

/-! ### strings.Split at a dot is the text's pieces -/
theorem occ_one (s : List UInt8) (c : UInt8) (j : Nat) : Lib.occAt s [c] j = (s[j]? == some c) := by
  unfold Lib.occAt
  have h : s[j]? = (s.drop j)[0]? := by rw [List.getElem?_drop, Nat.add_zero]
  rw [h]
  cases s.drop j with
  | nil => simp
  | cons x r =>
    show (c == x && [].isPrefixOf r) = (some x == some c)
    rw [Bool.eq_iff_iff, beq_iff_eq, List.isPrefixOf, Bool.and_true, beq_iff_eq]
    exact ⟨fun h => by rw [h], fun h => (Option.some.inj h).symm⟩

theorem splitK_spl : ∀ (n : Nat) (l : List UInt8), l.length ≤ n → Lib.splitK [46] 0 (Lib.count l [46]) l = spl l
  | n, l, hn => by
    rcases Lib.index_spec l [46] with ⟨h, hno⟩ | ⟨i, h, hi, hocc, hno⟩
    · rw [Lib.count_miss h]
      have hnd : (46 : UInt8) ∉ l := by
        intro hm
        obtain ⟨j, hj, e⟩ := List.getElem_of_mem hm
        have := hno j (by omega)
        rw [occ_one, List.getElem?_eq_getElem hj, e] at this
        simp at this
      rw [spl_nodot hnd]; rfl
    · have hl := Lib.occAt_head (c := 46) (t := []) rfl hocc
      have hil : i < l.length := (List.getElem?_eq_some_iff.1 hl).1
      have hli : l[i] = 46 := (List.getElem?_eq_some_iff.1 hl).2
      rw [Lib.count_hit (by simp) h, Nat.add_comm 1, Lib.splitK]
      have hm : ¬ (Lib.index l [46] == -1) = true := fun e => by have := beq_iff_eq.1 e; omega
      rw [if_neg hm, h]
      have e1 : (i : Int).toNat = i := by omega
      rw [e1]
      simp only [Nat.add_zero, List.length_cons, List.length_nil, Nat.zero_add]
      have hnd : (46 : UInt8) ∉ l.take i := by
        intro hmem
        rw [List.mem_take_iff_getElem] at hmem
        obtain ⟨j, hj, e⟩ := hmem
        have := hno j (by omega)
        rw [occ_one, List.getElem?_eq_getElem (by omega), e] at this
        simp at this
      have hsplit : l = l.take i ++ 46 :: l.drop (i + 1) := by
        rw [← hli, List.getElem_cons_drop, List.take_append_drop]
      match n, hn with
      | 0, hn => omega
      | n + 1, hn =>
        rw [splitK_spl n (l.drop (i + 1)) (by rw [List.length_drop]; omega)]
        conv => rhs; rw [hsplit]
        rw [spl_dot hnd]

theorem splitB_spl (s : ByteArray) : Lib.splitB (mk [46]) 0 (Lib.countB s (mk [46])) s = (spl (bs s)).map mk := by
  have h := Lib.splitB_data (mk [46]) 0 (Lib.countB s (mk [46])) s
  have h2 : Lib.splitK (mk [46]).data.toList 0 (Lib.countB s (mk [46])) s.data.toList = spl (bs s) := splitK_spl _ _ (Nat.le_refl _)
  rw [h2] at h
  rw [← h, List.map_map]
  conv => lhs; rw [← List.map_id (Lib.splitB (mk [46]) 0 (Lib.countB s (mk [46])) s)]
  exact List.map_congr_left (fun x _ => (mk_bs x).symm)

/-! ### The last dot -/
theorem lastP_eq {a b : List UInt8} (h : (46 : UInt8) ∉ b) : lastP (a ++ 46 :: b) = b := by
  unfold lastP; rw [spl_append, spl_nodot h]; simp
theorem parentP_eq {a b : List UInt8} (h : (46 : UInt8) ∉ b) : parentP (a ++ 46 :: b) = a := by
  unfold parentP; rw [spl_append, spl_nodot h, List.dropLast_concat, jn_spl]
theorem lastP_nodot {b : List UInt8} (h : (46 : UInt8) ∉ b) : lastP b = b := by
  unfold lastP; rw [spl_nodot h]; rfl
theorem parentP_nodot {b : List UInt8} (h : (46 : UInt8) ∉ b) : parentP b = [] := by
  unfold parentP; rw [spl_nodot h]; rfl

/-- Where the last dot of a text is: nowhere, or at 'i'. -/
theorem lastIx_cases (l : List UInt8) : (Lib.lastIndexByte (mk l) 46 = -1 ∧ (46 : UInt8) ∉ l) ∨
    ∃ i : Nat, Lib.lastIndexByte (mk l) 46 = i ∧ i < l.length ∧ l = l.take i ++ 46 :: l.drop (i + 1) ∧ (46 : UInt8) ∉ l.drop (i + 1) := by
  have hget : ∀ k (h : k < l.length), (((mk l).data[k]!).toNat : Int) = (l[k].toNat : Int) := by
    intro k h
    simp [h]
  have h46 : ∀ c : UInt8, (c.toNat : Int) = 46 ↔ c = 46 := by
    intro c
    constructor
    · intro h
      apply UInt8.toNat_inj.1
      show c.toNat = 46
      omega
    · rintro rfl; rfl
  rcases Lib.lastIndexByte_spec (mk l) 46 with ⟨h, hn⟩ | ⟨i, hi, h, hc, hn⟩
  · left
    refine ⟨h, fun hm => ?_⟩
    obtain ⟨j, hj, e⟩ := List.getElem_of_mem hm
    exact hn j (by rw [mk_size]; exact hj) (by rw [hget j hj, h46]; exact e)
  · right
    rw [mk_size] at hi
    have hli : l[i] = 46 := (h46 _).1 (by rw [← hget i hi]; exact hc)
    refine ⟨i, h, hi, ?_, fun hm => ?_⟩
    · rw [← hli, List.getElem_cons_drop, List.take_append_drop]
    · obtain ⟨j, hj, e⟩ := List.getElem_of_mem hm
      rw [List.length_drop] at hj
      rw [List.getElem_drop] at e
      exact hn (i + 1 + j) (by omega) (by rw [mk_size]; omega) (by rw [hget _ (by omega), h46]; exact e)
end Imp
