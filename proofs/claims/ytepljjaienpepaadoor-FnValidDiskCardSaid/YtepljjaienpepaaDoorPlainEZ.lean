/-
  Plain laws of names: under and above, in common, resolved, relative.
-/
import Derived.Test.YtepljjaienpepaaDoorZ2
namespace Imp
open Go

theorem jn_append : ∀ {a b : List (List UInt8)}, a ≠ [] → b ≠ [] → jn (a ++ b) = jn a ++ 46 :: jn b
  | [], _, h, _ => absurd rfl h
  | [p], b, _, hb => by rw [List.singleton_append, jn_cons hb]; rfl
  | p :: q :: r, b, _, hb => by
    have ih := jn_append (a := q :: r) (b := b) (by simp) hb
    have hne : q :: r ++ b ≠ [] := by rw [List.cons_append]; exact List.cons_ne_nil _ _
    rw [List.cons_append, jn_cons hne, ih, jn_cons (p := p) (r := q :: r) (List.cons_ne_nil _ _), List.append_assoc]
    rfl
theorem under_self (s : List UInt8) : underP s s = true := by unfold underP; simp
theorem under_of_eq {s p r : List UInt8} (h : s = p ++ 46 :: r) : underP s p = true := by
  have : (p ++ [46]).isPrefixOf s = true := by rw [List.isPrefixOf_iff_prefix]; exact ⟨r, by rw [h]; simp⟩
  unfold underP
  rw [this, Bool.or_true]
theorem under_nil (s : List UInt8) : underP s [] = true := by unfold underP; simp
theorem mem_above {s n : List UInt8} : n ∈ aboveP s ↔ ∃ k, k < (spl s).length ∧ n = jn ((spl s).take (k + 1)) := by
  unfold aboveP
  rw [List.mem_map]
  constructor
  · rintro ⟨i, hi, rfl⟩; exact ⟨i, List.mem_range.mp hi, rfl⟩
  · rintro ⟨i, hi, rfl⟩; exact ⟨i, List.mem_range.mpr hi, rfl⟩
theorem above_under {s n : List UInt8} (h : n ∈ aboveP s) : underP s n = true := by
  obtain ⟨k, hk, rfl⟩ := mem_above.mp h
  rcases Nat.lt_or_ge (k + 1) (spl s).length with h1 | h1
  · have ha : (spl s).take (k + 1) ≠ [] := by intro e; have := congrArg List.length e; rw [List.length_take, List.length_nil] at this; omega
    have hb : (spl s).drop (k + 1) ≠ [] := by intro e; have := congrArg List.length e; rw [List.length_drop, List.length_nil] at this; omega
    have e : s = jn ((spl s).take (k + 1)) ++ 46 :: jn ((spl s).drop (k + 1)) := by
      rw [← jn_append ha hb, List.take_append_drop, jn_spl]
    exact under_of_eq e
  · rw [List.take_of_length_le h1, jn_spl]; exact under_self s
theorem under_above {s p : List UInt8} (hp : p ≠ []) (h : underP s p = true) : p ∈ aboveP s := by
  refine mem_above.mpr ?_
  rcases under_cases hp h with e | ⟨r, e⟩
  · subst e
    have h1 := spl_pos s
    exact ⟨(spl s).length - 1, by omega, by rw [Nat.sub_add_cancel h1, List.take_length, jn_spl]⟩
  · have hsp : spl s = spl p ++ spl r := by rw [e, spl_append]
    have h1 := spl_pos p
    have h2 := spl_pos r
    exact ⟨(spl p).length - 1, by rw [hsp, List.length_append]; omega, by rw [Nat.sub_add_cancel h1, hsp, List.take_left, jn_spl]⟩
theorem under_anti {s p : List UInt8} (hs : s ≠ []) (hp : p ≠ []) (h : underP s p = true) (k : underP p s = true) : s = p := by
  rcases under_cases hp h with e | ⟨r, e⟩
  · exact e
  · rcases under_cases hs k with e' | ⟨q, e'⟩
    · exact e'.symm
    · have h1 := congrArg List.length e
      have h2 := congrArg List.length e'
      simp at h1 h2
      omega
theorem under_prefix {s p : List UInt8} (h : underP s p = true) : s.take p.length = p := by
  by_cases hp : p = []
  · subst hp; simp
  · rcases under_cases hp h with e | ⟨r, e⟩
    · subst e; simp
    · rw [e, List.take_left]
theorem fAbove_name {s : List UInt8} (h : vName s = true) : fAbove s = aboveP s := by rw [fAbove, h]; rfl
theorem fAbove_not {s : List UInt8} (h : vName s = false) : fAbove s = [] := by rw [fAbove, h]; rfl
theorem fAbove_length (s : List UInt8) : (fAbove s).length ≤ 3 := by
  unfold fAbove
  split
  · rename_i h
    unfold aboveP
    rw [List.length_map, List.length_range]
    exact (vName_parts h).1
  · simp
theorem vPkg_of {l : List UInt8} (h : vName l = true) : vPkg l = true := by unfold vPkg; rw [h, Bool.or_true]
theorem fUnder_pkg {s p : List UInt8} (hs : vName s = true) (hp : vPkg p = true) : fUnder s p = underP s p := by rw [fUnder, hs, hp]; rfl
/-- A name is under a package exactly if that is nothing, or one of the names above it. -/
theorem under_iff {s p : List UInt8} (hs : vName s = true) (hp : vPkg p = true) : fUnder s p = (p.isEmpty || decide (p ∈ fAbove s)) := by
  rw [fUnder_pkg hs hp, fAbove_name hs]
  by_cases h : p = []
  · subst h; rw [under_nil]; rfl
  · have he : p.isEmpty = false := by cases p with | nil => exact absurd rfl h | cons => rfl
    rw [he, Bool.false_or]
    by_cases hu : underP s p = true
    · rw [hu]; exact (decide_eq_true (under_above h hu)).symm
    · rw [(Bool.not_eq_true _).mp hu]
      exact (decide_eq_false (fun hm => hu (above_under hm))).symm
theorem fUnder_anti {s p : List UInt8} (hs : vName s = true) (hp : vName p = true) (h : fUnder s p = true) (k : fUnder p s = true) : s = p := by
  rw [fUnder_pkg hs (vPkg_of hp)] at h
  rw [fUnder_pkg hp (vPkg_of hs)] at k
  exact under_anti (vName_ne hs) (vName_ne hp) h k
/-! The names above, one by one. -/
theorem above_get {s : List UInt8} (i : Nat) (h : i < (aboveP s).length) : (aboveP s)[i] = jn ((spl s).take (i + 1)) := by
  simp only [aboveP, List.getElem_map, List.getElem_range]
theorem dropLast_take_succ {P : List (List UInt8)} {k : Nat} (h : k < P.length) : (P.take (k + 1)).dropLast = P.take k := by
  rw [List.take_succ_eq_append_getElem h, List.dropLast_concat]
theorem aboveP_length (s : List UInt8) : (aboveP s).length = (spl s).length := by unfold aboveP; simp
theorem spl_take {s : List UInt8} {k : Nat} (hk : k < (spl s).length) : spl (jn ((spl s).take (k + 1))) = (spl s).take (k + 1) := by
  refine spl_jn (by intro e; have := congrArg List.length e; rw [List.length_take, List.length_nil] at this; omega) (fun p hp => spl_parts s p (List.mem_of_mem_take hp))
theorem above_parent {s : List UInt8} (hs : vName s = true) (i : Nat) (h : i < (fAbove s).length) : fParent (fAbove s)[i] = jn ((spl s).take i) := by
  have e := fAbove_name hs
  have hl : (fAbove s).length = (spl s).length := by rw [e, aboveP_length]
  have hm : (fAbove s)[i] ∈ aboveP s := by rw [← e]; exact List.getElem_mem h
  have hg : (fAbove s)[i] = jn ((spl s).take (i + 1)) := by
    have := above_get (s := s) i (by rw [aboveP_length]; omega)
    rw [← this]; congr 1
  rw [fParent, above_name hs _ hm, if_pos rfl, parentP, hg, spl_take (by omega), dropLast_take_succ (by omega)]
theorem above_last {s : List UInt8} (hs : vName s = true) (h : (fAbove s).length - 1 < (fAbove s).length) : (fAbove s)[(fAbove s).length - 1] = s := by
  have e := fAbove_name hs
  have hl : (fAbove s).length = (spl s).length := by rw [e, aboveP_length]
  have hg : (fAbove s)[(fAbove s).length - 1] = jn ((spl s).take ((fAbove s).length - 1 + 1)) := by
    have := above_get (s := s) ((fAbove s).length - 1) (by rw [aboveP_length]; omega)
    rw [← this]; congr 1
  rw [hg, hl, Nat.sub_add_cancel (spl_pos s), List.take_length, jn_spl]
theorem above_step {s : List UInt8} (hs : vName s = true) (i : Nat) (h : i + 1 < (fAbove s).length) : fParent (fAbove s)[i + 1] = (fAbove s)[i] := by
  rw [above_parent hs]
  have e := fAbove_name hs
  have := above_get (s := s) i (by rw [← e]; omega)
  rw [← this]; congr 1
  exact e.symm
theorem above_first {s : List UInt8} (hs : vName s = true) (h : 0 < (fAbove s).length) : fParent (fAbove s)[0] = [] := by
  rw [above_parent hs, List.take_zero]; rfl
theorem above_under' {s : List UInt8} (hs : vName s = true) (i : Nat) (h : i < (fAbove s).length) : fUnder s (fAbove s)[i] = true ∧ vName (fAbove s)[i] = true := by
  have e := fAbove_name hs
  have hm : (fAbove s)[i] ∈ aboveP s := by rw [← e]; exact List.getElem_mem h
  have hn := above_name hs _ hm
  exact ⟨by rw [fUnder_pkg hs (vPkg_of hn)]; exact above_under hm, hn⟩
theorem vName_of_above {s : List UInt8} (h : 0 < (fAbove s).length) : vName s = true := by
  by_cases hv : vName s = true
  · exact hv
  · rw [fAbove_not ((Bool.not_eq_true _).mp hv)] at h; simp at h
/-! What two names have in common. -/
theorem jn_take_le (P : List (List UInt8)) {i j : Nat} (h : i ≤ j) : (jn (P.take i)).length ≤ (jn (P.take j)).length := by
  have e : P.take j = P.take i ++ (P.take j).drop i := by
    conv => lhs; rw [← List.take_append_drop i (P.take j)]
    rw [List.take_take, Nat.min_eq_left h]
  by_cases ha : P.take i = []
  · rw [ha]; simp [jn]
  · by_cases hb : (P.take j).drop i = []
    · rw [e, hb, List.append_nil]; exact Nat.le_refl _
    · rw [e, jn_append ha hb, List.length_append]; omega
theorem above_sorted (s : List UInt8) : (aboveP s).Pairwise (fun x y => x.length ≤ y.length) := by
  unfold aboveP
  rw [List.pairwise_map]
  exact (List.pairwise_lt_range (n := (spl s).length)).imp (fun h => jn_take_le _ (by omega))
theorem last_longest : ∀ {L : List (List UInt8)}, L.Pairwise (fun x y => x.length ≤ y.length) → ∀ x ∈ L, x.length ≤ (L.getLastD []).length
  | [], _, x, h => by cases h
  | a :: r, hp, x, h => by
    have hr := last_longest (List.pairwise_cons.mp hp).2
    rw [List.getLastD_cons]
    cases r with
    | nil =>
      rw [List.mem_singleton] at h
      subst h; exact Nat.le_refl _
    | cons b q =>
      have e : (b :: q).getLastD a = (b :: q).getLastD [] := by rw [List.getLastD_cons, List.getLastD_cons]
      rw [e]
      rw [List.mem_cons] at h
      rcases h with h | h
      · subst h
        have h1 := (List.pairwise_cons.mp hp).1 b (List.mem_cons_self ..)
        have h2 := hr b (List.mem_cons_self ..)
        omega
      · exact hr x h
theorem common_longest {a b : List UInt8} (ha : vName a = true) {n : List UInt8} (h : n ∈ fAbove a) (hu : fUnder b n = true) : n.length ≤ (fCommon a b).length := by
  unfold fCommon
  refine last_longest ?_ n (List.mem_filter.mpr ⟨h, hu⟩)
  rw [fAbove_name ha]
  exact (above_sorted a).filter _
theorem getLastD_mem {L : List (List UInt8)} (h : L.getLastD [] ≠ []) : L.getLastD [] ∈ L := by
  cases L with
  | nil => exact absurd rfl h
  | cons a r => rw [List.getLastD_cons]; cases r with
    | nil => simp
    | cons b q => rw [List.getLastD_eq_getLast?, List.getLast?_eq_some_getLast (by simp)]; exact List.mem_cons_of_mem _ (List.getLast_mem (by simp))
theorem common_mem {a b : List UInt8} (h : fCommon a b ≠ []) : fCommon a b ∈ fAbove a ∧ fUnder b (fCommon a b) = true := by
  have := getLastD_mem (L := (fAbove a).filter (fUnder b)) h
  exact List.mem_filter.mp this
theorem common_under {a b : List UInt8} (ha : vName a = true) (hb : vName b = true) : fUnder a (fCommon a b) = true ∧ fUnder b (fCommon a b) = true ∧ vPkg (fCommon a b) = true := by
  by_cases h : fCommon a b = []
  · rw [h, fUnder_pkg ha rfl, fUnder_pkg hb rfl]; exact ⟨under_nil _, under_nil _, rfl⟩
  · obtain ⟨h1, h2⟩ := common_mem h
    rw [fAbove_name ha] at h1
    have hn := above_name ha _ h1
    exact ⟨by rw [fUnder_pkg ha (vPkg_of hn)]; exact above_under h1, h2, vPkg_of hn⟩
theorem common_le {a b : List UInt8} (ha : vName a = true) (hb : vName b = true) (h : fCommon a b ≠ []) : (fCommon a b).length ≤ (fCommon b a).length := by
  obtain ⟨h1, h2, h3⟩ := common_under ha hb
  refine common_longest hb ?_ h1
  rw [fAbove_name hb]
  rw [fUnder_pkg hb h3] at h2
  exact under_above h h2
theorem common_sym {a b : List UInt8} (ha : vName a = true) (hb : vName b = true) : fCommon b a = fCommon a b := by
  have key : ∀ {x y : List UInt8}, vName x = true → vName y = true → (fCommon x y).length = (fCommon y x).length → fCommon x y = fCommon y x := by
    intro x y hx hy hl
    obtain ⟨h1, h2, h3⟩ := common_under hx hy
    obtain ⟨k1, k2, k3⟩ := common_under hy hx
    rw [fUnder_pkg hx h3] at h1
    rw [fUnder_pkg hx k3] at k2
    rw [← under_prefix h1, ← under_prefix k2, hl]
  refine key hb ha ?_
  by_cases h : fCommon a b = []
  · by_cases k : fCommon b a = []
    · rw [h, k]
    · have := common_le hb ha k
      rw [h] at this
      simp at this
      exact absurd this k
  · have h1 := common_le ha hb h
    have k : fCommon b a ≠ [] := by
      intro e; rw [e] at h1; simp at h1; exact h h1
    have := common_le hb ha k
    omega
/-! Joined parts. -/
theorem parts_join {P : List (List UInt8)} (h : ∀ p ∈ P, vPart p = true) (hn : vName (jn P) = true) : fParts (jn P) = P ∧ P ≠ [] := by
  have hne : P ≠ [] := by intro e; subst e; exact absurd rfl (vName_ne hn)
  exact ⟨by rw [fParts, hn, if_pos rfl]; exact spl_jn hne (fun p hp => vPart_noDot (h p hp)), hne⟩
def dots (l : List UInt8) : Nat := l.countP (· == 46)
theorem dots_spl : ∀ l : List UInt8, (spl l).length = dots l + 1
  | [] => rfl
  | c :: t => by
    have ih := dots_spl t
    have hp := spl_pos t
    unfold spl dots
    rw [List.countP_cons]
    unfold dots at ih
    split
    · rename_i h; rw [List.length_cons, ih]
    · rename_i h; rw [List.length_cons, List.length_tail]; omega
theorem dots_take {l : List UInt8} {k : Nat} (h : k < l.length) : dots (l.take (k + 1)) = dots (l.take k) + (if l[k] == 46 then 1 else 0) := by
  unfold dots
  rw [List.take_succ_eq_append_getElem h, List.countP_append, List.countP_singleton]
end Imp
