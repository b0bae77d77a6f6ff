/-
  Plain laws of names: resolved and relative ones.
-/
import Derived.Test.YtepljjaienpepaaDoorZ3
import Derived.Test.YtepljjaienpepaaDoorPlainEZ
namespace Imp
open Go

theorem upP_succ : ∀ (n : Nat) (p : List UInt8), upP (n + 1) p = parentP (upP n p)
  | 0, _ => rfl
  | n + 1, p => by
    show upP (n + 1) (parentP p) = _
    rw [upP_succ n (parentP p)]; rfl
theorem fRes_some {p s : List UInt8} {level : Int} (h : fRes p level s ≠ []) : okRes p level s = true ∧ vName (resP p level.toNat s) = true ∧ fRes p level s = resP p level.toNat s := by
  unfold fRes at h ⊢
  by_cases h1 : okRes p level s = true
  · rw [if_pos h1] at h ⊢
    by_cases h2 : vName (resP p level.toNat s) = true
    · rw [if_pos h2]; exact ⟨h1, h2, rfl⟩
    · rw [if_neg h2] at h; exact absurd rfl h
  · rw [if_neg h1] at h; exact absurd rfl h
theorem okRes_iff {p s : List UInt8} {level : Int} (h : okRes p level s = true) : vPkg p = true ∧ vPkg s = true ∧ 0 ≤ level ∧ level ≤ 4 := by
  unfold okRes at h
  simp only [Bool.and_eq_true, decide_eq_true_eq] at h
  exact ⟨h.1.1, h.1.2, h.2.1, h.2.2⟩
theorem okRes_of {p s : List UInt8} {level : Int} (h1 : vPkg p = true) (h2 : vPkg s = true) (h3 : 0 ≤ level) (h4 : level ≤ 4) : okRes p level s = true := by
  unfold okRes
  rw [h1, h2, decide_eq_true h3, decide_eq_true h4]; rfl
theorem res_zero {p s : List UInt8} {level : Int} (h0 : level = 0) (h : fRes p level s ≠ []) : fRes p level s = s := by
  obtain ⟨_, _, h3⟩ := fRes_some h
  rw [h3]; subst h0
  unfold resP
  exact if_pos rfl
theorem res_name {p s : List UInt8} {level : Int} (h : fRes p level s ≠ []) : vName (fRes p level s) = true := by
  obtain ⟨_, h2, h3⟩ := fRes_some h
  rw [h3]; exact h2
theorem res_pkg {p s : List UInt8} {level : Int} (h1 : 1 ≤ level) (h : fRes p level s ≠ []) : vName p = true := by
  obtain ⟨h2, h3, h4⟩ := fRes_some h
  obtain ⟨hp, _⟩ := okRes_iff h2
  rcases vPkg_cases hp with e | e
  · subst e
    rw [h4] at h
    unfold resP at h
    rw [if_neg (by omega), upP_nil] at h
    exact absurd rfl h
  · exact e
theorem res_step {p s : List UInt8} {level : Int} (h1 : 1 < level) (h : fRes p level s ≠ []) : fRes (fParent p) (level - 1) s = fRes p level s := by
  have hn := res_pkg (by omega) h
  obtain ⟨h2, h3, h4⟩ := fRes_some h
  obtain ⟨hp, hs, _, hl⟩ := okRes_iff h2
  have e : fParent p = parentP p := by rw [fParent, hn]; rfl
  have er : resP (parentP p) (level - 1).toNat s = resP p level.toNat s := by
    obtain ⟨n, hnn⟩ : ∃ n : Nat, level = n + 2 := ⟨(level - 2).toNat, by omega⟩
    have e1 : (level - 1).toNat = n + 1 := by omega
    have e2 : level.toNat = n + 2 := by omega
    rw [e1, e2]
    unfold resP
    rw [if_neg (by omega : ¬ n + 1 = 0), if_neg (by omega : ¬ n + 2 = 0)]; rfl
  have ok : okRes (parentP p) (level - 1) s = true := okRes_of (parent_pkg hn) hs (by omega) (by omega)
  rw [e, h4]
  unfold fRes
  rw [if_pos ok, er, if_pos h3]
theorem isEmpty_of_ne {l : List UInt8} (h : l ≠ []) : l.isEmpty = false := by cases l with | nil => exact absurd rfl h | cons => rfl
theorem res_self {p : List UInt8} (h : vName p = true) : fRes p 1 [] = p := by
  have ok : okRes p 1 [] = true := okRes_of (vPkg_of h) rfl (by decide) (by decide)
  have e : resP p (1 : Int).toNat [] = p := by
    have he := isEmpty_of_ne (vName_ne h)
    show (if (1 : Nat) = 0 then [] else if (upP 0 p).isEmpty then [] else resP.childD (upP 0 p) []) = p
    rw [if_neg (by decide)]
    show (if p.isEmpty = true then [] else resP.childD p []) = p
    rw [if_neg (by rw [he]; decide)]; rfl
  unfold fRes
  rw [if_pos ok, e, if_pos h]
theorem res_end {p s : List UInt8} {level : Int} (h : fRes p level s ≠ []) : s = [] ∨ (s.length ≤ (fRes p level s).length ∧ (fRes p level s).drop ((fRes p level s).length - s.length) = s) := by
  obtain ⟨h2, h3, h4⟩ := fRes_some h
  rw [h4] at h ⊢
  unfold resP at h ⊢
  by_cases h0 : level.toNat = 0
  · rw [if_pos h0]; right; simp
  · rw [if_neg h0] at h ⊢
    by_cases he : (upP (level.toNat - 1) p).isEmpty = true
    · rw [if_pos he] at h; exact absurd rfl h
    · rw [if_neg he]
      unfold resP.childD
      by_cases hs : s.isEmpty = true
      · left; rw [List.isEmpty_iff] at hs; exact hs
      · right
        rw [if_neg hs]
        have e : upP (level.toNat - 1) p ++ 46 :: s = (upP (level.toNat - 1) p ++ [46]) ++ s := by simp
        rw [e, List.length_append (bs := s), Nat.add_sub_cancel, List.drop_left]
        exact ⟨by omega, rfl⟩
/-! Relative names. -/
theorem relP_found : ∀ (n lev : Nat) (p s : List UInt8), 1 ≤ lev → (relP n lev p s).1 ≠ 0 →
    ∃ m, m < n ∧ (relP n lev p s).1 = lev + m ∧ (∀ k, k < m → underP s (upP k p) = false) ∧ upP m p ≠ [] ∧ underP s (upP m p) = true ∧ (relP n lev p s).2 = (s.drop (upP m p).length).drop 1
  | 0, lev, p, s, h1, h => absurd rfl h
  | n + 1, lev, p, s, h1, h => by
    rw [relP] at h ⊢
    by_cases he : p.isEmpty = true
    · rw [if_pos he] at h; exact absurd rfl h
    · rw [if_neg he] at h ⊢
      by_cases hu : underP s p = true
      · rw [if_pos hu]
        exact ⟨0, by omega, rfl, fun k hk => by omega, by intro e; exact he (by rw [show p = [] from e]; rfl), hu, rfl⟩
      · rw [if_neg hu] at h ⊢
        obtain ⟨m, g1, g2, g3, g4, g5, g6⟩ := relP_found n (lev + 1) (parentP p) s (by omega) h
        refine ⟨m + 1, by omega, by rw [g2]; omega, ?_, g4, g5, g6⟩
        intro k hk
        cases k with
        | zero => exact (Bool.not_eq_true _).mp hu
        | succ k => exact g3 k (by omega)
theorem rel_back {p s : List UInt8} {m : Nat} (hp : vName p = true) (hs : vName s = true) (hm : m < 3) (hne : upP m p ≠ []) (hu : underP s (upP m p) = true) :
    fRes p ((m : Int) + 1) ((s.drop (upP m p).length).drop 1) = s := by
  have key : ∀ r, vPkg r = true → resP.childD (upP m p) r = s → fRes p ((m : Int) + 1) r = s := by
    intro r hr hc
    have ok : okRes p ((m : Int) + 1) r = true := okRes_of (vPkg_of hp) hr (by omega) (by omega)
    have e : resP p ((m : Int) + 1).toNat r = s := by
      have e1 : ((m : Int) + 1).toNat = m + 1 := by omega
      rw [e1]
      unfold resP
      rw [if_neg (by omega), Nat.add_sub_cancel, if_neg (by rw [isEmpty_of_ne hne]; decide)]
      exact hc
    unfold fRes
    rw [if_pos ok, e, if_pos hs]
  rcases under_cases hne hu with e | ⟨r, e⟩
  · have : (s.drop (upP m p).length).drop 1 = [] := by rw [← e]; simp
    rw [this]
    exact key [] rfl e.symm
  · have hd : (s.drop (upP m p).length).drop 1 = r := by rw [e, List.drop_left]; rfl
    rw [hd]
    obtain ⟨h3, hpp⟩ := vName_parts hs
    have hsp : spl s = spl (upP m p) ++ spl r := by
      conv => lhs; rw [e]
      exact spl_append _ _
    rw [hsp, List.length_append] at h3
    have h1 := spl_pos (upP m p)
    have hn : vName r = true := by
      unfold vName
      rw [Bool.and_eq_true]
      exact ⟨List.all_eq_true.mpr (fun q hq => hpp q (by rw [hsp]; exact List.mem_append_right _ hq)), decide_eq_true (by omega)⟩
    refine key r (vPkg_of hn) ?_
    unfold resP.childD
    rw [if_neg (by rw [isEmpty_of_ne (vName_ne hn)]; decide)]
    exact e.symm
theorem rel_law {p s : List UInt8} (h : (fRelV p s).1 ≠ 0) : vName p = true ∧ vName s = true ∧ ∃ m : Nat, m < 3 ∧ (fRelV p s).1 = m + 1 ∧ (∀ k, k < m → fUnder s (upP k p) = false) ∧ fRes p ((m : Int) + 1) (fRelV p s).2 = s ∧ (fRelV p s).2.length ≤ 11 := by
  unfold fRelV at h ⊢
  by_cases hv : (vName p && vName s) = true
  · rw [if_pos hv] at h ⊢
    rw [Bool.and_eq_true] at hv
    obtain ⟨hp, hs⟩ := hv
    obtain ⟨m, g1, g2, g3, g4, g5, g6⟩ := relP_found 3 1 p s (Nat.le_refl _) h
    refine ⟨hp, hs, m, g1, by rw [g2]; omega, ?_, ?_, ?_⟩
    · intro k hk
      rw [fUnder_pkg hs (upP_pkg k (vPkg_of hp))]
      exact g3 k hk
    · rw [g6]; exact rel_back hp hs g1 g4 g5
    · rw [g6, List.length_drop, List.length_drop]; have := vName_length hs; omega
  · rw [if_neg hv] at h; exact absurd rfl h
theorem up_parent {p : List UInt8} (h : vName p = true) (k : Nat) : fParent (upP k p) = upP (k + 1) p := by
  rw [upP_succ]
  rcases vPkg_cases (upP_pkg k (vPkg_of h)) with e | e
  · rw [e]; rfl
  · rw [fParent, e]; rfl
end Imp

/-
  Walks: lists of texts compared and searched, as the laws do it.
-/
namespace Imp
open Go
theorem any_mem {x : List UInt8} {L : List (List UInt8)} : L.any (fun l => decide (l = x)) = decide (x ∈ L) := by
  by_cases h : x ∈ L
  · rw [decide_eq_true h, List.any_eq_true]; exact ⟨x, h, decide_eq_true rfl⟩
  · rw [decide_eq_false h, List.any_eq_false]; intro y hy; simp; intro e; subst e; exact h hy
theorem dots_le (l : List UInt8) : dots l ≤ l.length := List.countP_le_length ..
theorem fJoin_parts {l : List UInt8} (h : vName l = true) : fJoin (fParts l) = l := by
  have e : fParts l = spl l := by rw [fParts, h]; rfl
  obtain ⟨_, hp⟩ := vName_parts h
  unfold fJoin
  rw [e, jn_spl, h, List.all_eq_true.mpr hp]; rfl
end Imp
namespace Go.Proofs.YtepljjaienpepaaDoor
open Go Go.RowKit Imp
set_option linter.unusedVariables false

end Go.Proofs.YtepljjaienpepaaDoor

/-
  Walks: parts drawn and joined.
-/
namespace Go.Proofs.YtepljjaienpepaaDoor
open Go Go.RowKit Imp
set_option linter.unusedVariables false

theorem Rdr.grown {w w' : World} {g p : Nat} {r : Option Nat} (h : Rdr w g p) (k : w.grownBy w' r) (hne : ∀ b, r = some b → g < b) : Rdr w' g p := by
  have hlt := h.lt
  obtain ⟨bv, M, hg, hM, h1, h2⟩ := h
  refine ⟨bv, M, (k.block g hlt ?_).trans hg, hM.keep (Same.of_grown k (by omega) (fun b e => .inr (by have := hne b e; omega))), h1, h2⟩
  intro e
  have := hne g e.symm
  omega
theorem Own.keepR {α : Type} {enc : α → List Value} {w w' : World} {base e k g : Nat} {v : Value} {L : List α} (h : Own w base e k enc v L) (hg : w.grownBy w' (some g)) (hb : g < base) : Own w' base e k enc v L :=
  h.keep (fun b e => hg.block b (h.block b e).2 (by intro q; injection q with q; have := (h.block b e).1; omega))
theorem slr_cell {w : World} {lo hi n c : Nat} {a : Option Addr} {P : List (List UInt8)} (h : SlR w lo hi 1 eL (.slice a n c) P) {k : Nat} (hk : k < P.length) :
    ∃ b o, a = some ⟨b, o, none⟩ ∧ b < hi ∧ w.cell? ⟨b, o + k, none⟩ = some (.string (mk P[k])) := by
  obtain ⟨a', c', e, h1, h2, h3⟩ := h
  injection e with e1 e2 e3
  subst e1
  obtain ⟨b, o, e', hb, hc⟩ := h3 k hk
  refine ⟨b, o, e', hb.2, ?_⟩
  have := hc 0 _ rfl
  simpa using this
theorem below_drewN' {a b c : World} {n : Nat} (h : Gr a b) (k : Gr (b.drewN n) c) : Gr a c := Gr.tr (below_drewN h n) k
theorem gr_cell {w w' : World} (h : Gr w w') {b o : Nat} {x : Value} (hb : b < w.heap.size) (c : w.cell? ⟨b, o, none⟩ = some x) : w'.cell? ⟨b, o, none⟩ = some x := by
  rw [World.cell?_of_block (w := w) (a := ⟨b, o, none⟩) (h.block b hb)]
  exact c

end Go.Proofs.YtepljjaienpepaaDoor
