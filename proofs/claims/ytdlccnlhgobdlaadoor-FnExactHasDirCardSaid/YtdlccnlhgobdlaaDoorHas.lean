/-
  Walks: directories of trees; the law that the two packages tell the same of them.
-/
import Derived.Test.YtdlccnlhgobdlaaDoorTreeH
namespace Imp
open Go Go.RowKit
theorem any_congr' {α : Type} {p q : α → Bool} : ∀ {L : List α}, (∀ x ∈ L, p x = q x) → L.any p = L.any q
  | [], _ => rfl
  | x :: L, h => by rw [List.any_cons, List.any_cons, h x (List.mem_cons_self ..), any_congr' (L := L) (fun y hy => h y (List.mem_cons_of_mem _ hy))]
def hasS (T : List Fil) (root : Int) (p : List UInt8) : Bool := T.any (fun f => (f.root == root) && (!f.pkg.toList.isEmpty) && underP (bs f.pkg) p) || p.isEmpty
def hasI (T : List Fil) (root : Int) (p : List UInt8) : Bool := T.any (fun f => (f.root == root) && fUnder (bs f.pkg) p) || p.isEmpty
theorem okTree_mem {T : List Fil} (h : okTree T = true) : ∀ f ∈ T, okFil f = true := by
  intro f hf
  unfold okTree at h
  rw [Bool.and_eq_true] at h
  obtain ⟨i, hi, rfl⟩ := List.getElem_of_mem hf
  have := List.all_eq_true.mp h.1 i (List.mem_range.mpr hi)
  unfold goodAt at this
  rw [List.getElem?_eq_getElem hi] at this
  simp only [Bool.and_eq_true] at this
  exact this.1
theorem okFil_pkg {f : Fil} (h : okFil f = true) : vPkg (bs f.pkg) = true := by
  unfold okFil at h
  simp only [Bool.and_eq_true] at h
  exact h.1.1.1.2
theorem has_eq {T : List Fil} {root : Int} {p : List UInt8} (hT : okTree T = true) (hp : vPkg p = true) : hasI T root p = hasS T root p := by
  unfold hasI hasS
  congr 1
  refine any_congr' (fun f hf => ?_)
  have hk := okFil_pkg (okTree_mem hT f hf)
  have he : f.pkg.toList.isEmpty = (bs f.pkg).isEmpty := Go.Proofs.YtdlccnlhgobdlaaDoor.isEmpty_toList f.pkg
  rw [he, Bool.and_assoc]
  congr 1
  rcases vPkg_cases hk with e | e
  · rw [e]
    have : vName [] = false := by rfl
    unfold fUnder
    rw [this]; rfl
  · have hne : (bs f.pkg).isEmpty = false := by
      have := vName_ne e
      cases hb : bs f.pkg with
      | nil => exact absurd hb this
      | cons => rfl
    unfold fUnder
    rw [e, hp, hne]; rfl
def fHas (T : List Fil) (root : Int) (p : List UInt8) : Bool := okTree T && (decide (0 ≤ root) && decide (root ≤ 2)) && vPkg p && hasS T root p
end Imp
namespace Go.Proofs.YtdlccnlhgobdlaaDoor
open Go Go.RowKit Imp
set_option linter.unusedVariables false
set_option linter.unusedSimpArgs false

set_option maxHeartbeats 1600000 in
theorem shasDir_any {lo hi : Nat} (v : Value) (L : List FR) (root : Int) (p : ByteArray) (w : World) (hv0 : SlR w lo hi 6 eF v L) (hhi : hi ≤ w.heap.size) (hsm : ∀ r ∈ L, SmF r) (hp : p.size ≤ 4194304) :
    Calls Tryd.prog 13 #[.agg #[v], .int .i64 root, .string p] w fun e w' => e = .returned (.bool (hasS (L.map (·.1)) root (bs p))) ∧ Gr w w' := by
  obtain ⟨a, c, rfl, h1, h2, h3⟩ := hv0
  unfold maxLen at h2
  have hM : (L.map (·.1)).any (fun f => (f.root == root) && (!f.pkg.toList.isEmpty) && underP (bs f.pkg) (bs p)) = L.any (fun r : FR => (r.1.root == root) && (!r.1.pkg.toList.isEmpty) && underP (bs r.1.pkg) (bs p)) := by rw [List.any_map]; rfl
  obtain ⟨R, hR⟩ : ∃ R, R = hasS (L.map (·.1)) root (bs p) := ⟨_, rfl⟩
  rw [← hR]
  unfold hasS at hR
  rw [hM] at hR
  have HR := Lib.hid hR
  have HS := Lib.hid hsm
  have hpe := isEmpty_toList p
  clear hR hM hsm
  go_enter Tryd.func13, Tryd.ntmps13
  go_wp2
  go_loopw [7] (fun i wr => ∃ k : Nat, k ≤ L.length ∧ i = .int .i64 k ∧ (L.take k).any (fun r : FR => (r.1.root == root) && (!r.1.pkg.toList.isEmpty) && underP (bs r.1.pkg) (bs p)) = false ∧ Gr (w.alloc (.cells #[.slice a L.length c] 29)) wr) (fun i _ => L.length - (intOf i).toNat)
  case atStart => exact ⟨0, Nat.zero_le _, rfl, by simp, Gr.rfl' _⟩
  case round =>
    obtain ⟨k, hk, rfl, hall, hgr⟩ := hrel
    have H := Lib.hid hall
    clear hall
    have hgs := hgr.size
    simp at hgs
    have t0 := hgr.cell (p := ⟨w.heap.size, 0, none⟩) (by simp)
    have hgw : Gr w wr := Gr.tr (gr_al w _) hgr
    by_cases hlt : k < L.length
    · obtain ⟨b, o, rfl, hbb, hc⟩ := h3 k hlt
      obtain ⟨x, hx⟩ : ∃ x, x = L[k] := ⟨_, rfl⟩
      have hcel : ∀ W, Gr w W → W.cell? ⟨b, o + k * 6, none⟩ = some (.int .i64 x.1.root) ∧ W.cell? ⟨b, o + k * 6 + 1, none⟩ = some (.string x.1.pkg) :=
        fun W hW => by
          obtain ⟨c0, c1, _⟩ := cells_fil (w := W) (b := b) (o := o) (k := k) (x := x) (fun j u hu => (hW.cell (p := ⟨b, o + k * 6 + j, none⟩) (Nat.lt_of_lt_of_le hbb.2 hhi)).trans (hc j u (by rw [← hx]; exact hu)))
          exact ⟨c0, c1⟩
      have hmx := HS.out _ (List.getElem_mem hlt)
      rw [← hx] at hmx
      have hun := fun W => sunder_any x.1.pkg p W (by have := hmx.1; omega) (by omega)
      have hat := any_take_succ (fun r : FR => (r.1.root == root) && (!r.1.pkg.toList.isEmpty) && underP (bs r.1.pkg) (bs p)) L k hlt
      rw [← hx] at hat
      obtain ⟨U, hU⟩ : ∃ U, U = underP (bs x.1.pkg) (bs p) := ⟨_, rfl⟩
      obtain ⟨E, hE⟩ : ∃ E, E = x.1.pkg.toList.isEmpty := ⟨_, rfl⟩
      obtain ⟨Q, hQ⟩ : ∃ Q, Q = (x.1.root == root) := ⟨_, rfl⟩
      rw [← hU, ← hE, ← hQ, H.out, Bool.false_or] at hat
      rw [← hU] at hun
      have hyes : (Q && !E && U) = true → L.any (fun r : FR => (r.1.root == root) && (!r.1.pkg.toList.isEmpty) && underP (bs r.1.pkg) (bs p)) = true := by
        intro h
        rw [h] at hat
        rw [← List.take_append_drop (k + 1) L, List.any_append, hat, Bool.true_or]
      have hki : (k : Int) < (L.length : Int) := by omega
      have hallS : ∀ W, Gr (w.alloc (.cells #[.slice (some ⟨b, o, none⟩) L.length c] 29)) W → Gr (w.alloc (.cells #[.slice (some ⟨b, o, none⟩) L.length c] 29)) W ∧ W.cell? ⟨w.heap.size, 0, none⟩ = some (.slice (some ⟨b, o, none⟩) L.length c) ∧ W.cell? ⟨b, o + k * 6, none⟩ = some (.int .i64 x.1.root) ∧ W.cell? ⟨b, o + k * 6 + 1, none⟩ = some (.string x.1.pkg) :=
        fun W h => ⟨h, (h.cell (p := ⟨w.heap.size, 0, none⟩) (by simp)).trans (by simp), hcel W (Gr.tr (gr_al w _) h)⟩
      have HALL := Lib.hid hallS
      have HAT := Lib.hid hat
      have HUN := Lib.hid hun
      have HY := Lib.hid hyes
      have hQ' := hQ.symm
      have hE' := hE.symm
      clear hc h3 hx hmx hun hat hyes hallS hU hQ hE
      obtain ⟨c0, c1⟩ := hcel wr hgw
      cases Q
      · go_wp2
        go_roundw
        case rel => exact ⟨k + 1, by omega, by go_num, by rw [HAT.out]; rfl, hgr⟩
        case measure => simp [intOf]; omega
      · cases E
        · cases U
          · go_wp2_with fail
            refine (HUN.out _).mono ?_
            rintro e w' ⟨rfl, rfl⟩
            go_wp2
            go_roundw
            case rel => exact ⟨k + 1, by omega, by go_num, by rw [HAT.out]; rfl, hgr⟩
            case measure => simp [intOf]; omega
          · go_wp2_with fail
            refine (HUN.out _).mono ?_
            rintro e w' ⟨rfl, rfl⟩
            go_wp2
            go_ret
            exact ⟨ret_bool (by rw [HR.out, HY.out rfl]; rfl), hgw⟩
        · go_wp2
          go_roundw
          case rel => exact ⟨k + 1, by omega, by go_num, by rw [HAT.out]; rfl, hgr⟩
          case measure => simp [intOf]; omega
    · have hfin : R = p.toList.isEmpty := by
        have hL : L.take k = L := List.take_of_length_le (by omega)
        have hno := H.out
        rw [hL] at hno
        rw [HR.out, hno, Bool.false_or, hpe]
      have HF := Lib.hid hfin
      clear hfin
      go_wp2
      go_ret
      exact ⟨ret_bool (by rw [HF.out]; first | done | rfl | (rw [hpe]; simp)), hgw⟩
theorem ihasDir_any {lo hi : Nat} (v : Value) (L : List FR) (root : Int) (p : ByteArray) (w : World) (hok : OkW w) (hv0 : FlR w lo hi v L) (hhi : hi ≤ w.heap.size) (hsm : ∀ r ∈ L, SmF r) (hp : p.size ≤ 4194304) :
    Calls Tryd.prog 16 #[.agg #[v], .int .i64 root, .string p] w fun e w' => e = .returned (.bool (hasI (L.map (·.1)) root (bs p))) ∧ Gr w w' := by
  obtain ⟨⟨a, c, rfl, h1, h2, h3⟩, hbod⟩ := hv0
  unfold maxLen at h2
  have hM : (L.map (·.1)).any (fun f => (f.root == root) && fUnder (bs f.pkg) (bs p)) = L.any (fun r : FR => (r.1.root == root) && fUnder (bs r.1.pkg) (bs p)) := by rw [List.any_map]; rfl
  obtain ⟨R, hR⟩ : ∃ R, R = hasI (L.map (·.1)) root (bs p) := ⟨_, rfl⟩
  rw [← hR]
  unfold hasI at hR
  rw [hM] at hR
  have HR := Lib.hid hR
  have HS := Lib.hid hsm
  have HB := Lib.hid hbod
  have hpe := isEmpty_toList p
  clear hR hM hsm hbod
  go_enter Tryd.func16, Tryd.ntmps16
  go_wp2
  go_loopw [12] (fun i wr => ∃ k : Nat, k ≤ L.length ∧ i = .int .i64 k ∧ (L.take k).any (fun r : FR => (r.1.root == root) && fUnder (bs r.1.pkg) (bs p)) = false ∧ Gr w wr) (fun i _ => L.length - (intOf i).toNat)
  case atStart => exact ⟨0, Nat.zero_le _, rfl, by simp, gr_al w _⟩
  case round =>
    obtain ⟨k, hk, rfl, hall, hgw⟩ := hrel
    have H := Lib.hid hall
    clear hall
    have hgs := hgw.size
    by_cases hlt : k < L.length
    · obtain ⟨b, o, rfl, hbb, hc⟩ := h3 k hlt
      obtain ⟨x, hx⟩ : ∃ x, x = L[k] := ⟨_, rfl⟩
      obtain ⟨c0, c1, c2, c3, c4, c5⟩ := cells_fil (w := wr) (b := b) (o := o) (k := k) (x := x) (fun j u hu => (hgw.cell (p := ⟨b, o + k * 6 + j, none⟩) (Nat.lt_of_lt_of_le hbb.2 hhi)).trans (hc j u (by rw [← hx]; exact hu)))
      have hmx := HS.out _ (List.getElem_mem hlt)
      have hbx := HB.out _ (List.getElem_mem hlt)
      rw [← hx] at hmx hbx
      obtain ⟨xa, xc, hx2, _, _⟩ := SlR.form hbx
      rw [hx2] at c5
      have hgX := gr_al wr (.cells #[.int .i64 x.1.root, .string x.1.pkg, .string x.1.name, .bool x.1.init, .int .i64 x.1.stamp, .slice xa x.1.body.length xc] 46)
      have hun := fun W h => iIsUnder_any x.1.pkg p W (by have := hmx.1; omega) (by omega) h
      have hat := any_take_succ (fun r : FR => (r.1.root == root) && fUnder (bs r.1.pkg) (bs p)) L k hlt
      rw [← hx] at hat
      obtain ⟨U, hU⟩ : ∃ U, U = fUnder (bs x.1.pkg) (bs p) := ⟨_, rfl⟩
      obtain ⟨Q, hQ⟩ : ∃ Q, Q = (x.1.root == root) := ⟨_, rfl⟩
      rw [← hU, ← hQ, H.out, Bool.false_or] at hat
      rw [← hU] at hun
      have hyes : (Q && U) = true → L.any (fun r : FR => (r.1.root == root) && fUnder (bs r.1.pkg) (bs p)) = true := by
        intro h
        rw [h] at hat
        rw [← List.take_append_drop (k + 1) L, List.any_append, hat, Bool.true_or]
      have hki : (k : Int) < (L.length : Int) := by omega
      have hok1 := (hok.gr hgw).gr hgX
      have HAT := Lib.hid hat
      have HUN := Lib.hid hun
      have HY := Lib.hid hyes
      have hQ' := hQ.symm
      clear hc hx hmx hun hat hyes hU hQ hbx hx2
      cases Q
      · go_wp2
        go_roundw
        case rel => exact ⟨k + 1, by omega, by go_num, by rw [HAT.out]; rfl, hgw.tr hgX⟩
        case measure => simp [intOf]; omega
      · cases U
        · go_wp2_with fail
          refine (HUN.out _ hok1).mono ?_
          rintro e w5 ⟨rfl, hb5⟩
          go_wp2
          go_roundw
          case rel => exact ⟨k + 1, by omega, by go_num, by rw [HAT.out]; rfl, (hgw.tr hgX).tr hb5⟩
          case measure => simp [intOf]; omega
        · go_wp2_with fail
          refine (HUN.out _ hok1).mono ?_
          rintro e w5 ⟨rfl, hb5⟩
          go_wp2
          go_ret
          exact ⟨ret_bool (by rw [HR.out, HY.out rfl]; rfl), (hgw.tr hgX).tr hb5⟩
    · have hfin : R = p.toList.isEmpty := by
        have hL : L.take k = L := List.take_of_length_le (by omega)
        have hno := H.out
        rw [hL] at hno
        rw [HR.out, hno, Bool.false_or, hpe]
      have HF := Lib.hid hfin
      clear hfin
      go_wp2
      go_ret
      exact ⟨ret_bool (by rw [HF.out]; first | done | rfl | (rw [hpe]; simp)), hgw⟩
theorem sHasDir_any {lo hi : Nat} (v : Value) (L : List FR) (root : Int) (p : ByteArray) (w : World) (hok : OkW w) (hv0 : FlR w lo hi v L) (hhi : hi ≤ w.heap.size) (hsm : ∀ r ∈ L, SmF r) (hp : p.size ≤ 4194304) :
    Calls Tryd.prog 5 #[.agg #[v], .int .i64 root, .string p] w fun e w' => e = .returned (.bool (fHas (L.map (·.1)) root (bs p))) ∧ Gr w w' := by
  obtain ⟨a, c, rfl, _, _⟩ := hv0.1.form
  have hA := heap_alloc_new w (.cells #[.slice a L.length c] 29)
  have hgA := gr_al w (.cells #[.slice a L.length c] 29)
  have h1 := fun W (h : Gr w W) => svalidTree_any _ L W (hok.gr h) (hv0.below h hhi) (Nat.le_trans hhi h.size) hsm
  have h2 := fun W => svalidPackage_any p W (by omega)
  have h3 := fun W (h : Gr w W) => shasDir_any _ L root p W ((hv0.below h hhi).1) (Nat.le_trans hhi h.size) hsm hp
  unfold fHas
  generalize okTree (L.map (·.1)) = A at h1
  generalize vPkg (bs p) = V at h2
  generalize hasS (L.map (·.1)) root (bs p) = S at h3
  obtain ⟨B, hB⟩ : ∃ B, B = (decide (0 ≤ root) && decide (root ≤ 2)) := ⟨_, rfl⟩
  rw [← hB]
  have h4 := fun W => inRange_any root 0 2 W
  rw [← hB] at h4
  have H1 := Lib.hid h1
  have H2 := Lib.hid h2
  have H3 := Lib.hid h3
  have H4 := Lib.hid h4
  clear hB h1 h2 h3 h4 hv0
  cases A
  · go_enter Tryd.func5, Tryd.ntmps5
    go_wp2_with fail
    refine (H1.out _ hgA).mono ?_
    rintro e w1 ⟨rfl, hb1⟩
    go_wp2
    go_ret
    exact ⟨rfl, hgA.tr hb1⟩
  · cases B
    · go_enter Tryd.func5, Tryd.ntmps5
      go_wp2_with fail
      refine (H1.out _ hgA).mono ?_
      rintro e w1 ⟨rfl, hb1⟩
      go_wp2_with fail
      refine (H4.out _).mono ?_
      rintro e w' ⟨rfl, rfl⟩
      go_wp2
      go_ret
      exact ⟨rfl, hgA.tr hb1⟩
    · cases V
      · go_enter Tryd.func5, Tryd.ntmps5
        go_wp2_with fail
        refine (H1.out _ hgA).mono ?_
        rintro e w1 ⟨rfl, hb1⟩
        go_wp2_with fail
        refine (H4.out _).mono ?_
        rintro e w' ⟨rfl, rfl⟩
        go_wp2_with fail
        refine (H2.out _).mono ?_
        rintro e w2 ⟨rfl, hb2⟩
        go_wp2
        go_ret
        exact ⟨rfl, (hgA.tr hb1).tr hb2⟩
      · go_enter Tryd.func5, Tryd.ntmps5
        go_wp2_with fail
        refine (H1.out _ hgA).mono ?_
        rintro e w1 ⟨rfl, hb1⟩
        go_wp2_with fail
        refine (H4.out _).mono ?_
        rintro e w' ⟨rfl, rfl⟩
        go_wp2_with fail
        refine (H2.out _).mono ?_
        rintro e w2 ⟨rfl, hb2⟩
        have c0 := (row1 (((hb1.tr hb2).block _ (by simp)).trans hA)).1
        go_wp2_with fail
        refine (H3.out _ ((hgA.tr hb1).tr hb2)).mono ?_
        rintro e w3 ⟨rfl, hb3⟩
        go_wp2
        go_ret
        exact ⟨rfl, ((hgA.tr hb1).tr hb2).tr hb3⟩
theorem idirOk_any {lo hi : Nat} (v : Value) (L : List FR) (root : Int) (p : ByteArray) (w : World) (hok : OkW w) (hv0 : FlR w lo hi v L) (hhi : hi ≤ w.heap.size) (hsm : ∀ r ∈ L, SmF r) (hp : p.size ≤ 4194304) :
    Calls Tryd.prog 15 #[.agg #[v], .int .i64 root, .string p] w fun e w' => e = .returned (.bool (okTree (L.map (·.1)) && (decide (0 ≤ root) && decide (root ≤ 2)) && vPkg (bs p))) ∧ Gr w w' := by
  obtain ⟨a, c, rfl, _, _⟩ := hv0.1.form
  have hgA := gr_al w (.cells #[.slice a L.length c] 29)
  have h1 := fun W (h : Gr w W) => iValidTree_any _ L W (hok.gr h) (hv0.below h hhi) (Nat.le_trans hhi h.size) hsm
  have h2 := fun W h => ipackageOk_any p W (by omega) h
  generalize okTree (L.map (·.1)) = A at h1
  generalize vPkg (bs p) = V at h2
  obtain ⟨B, hB⟩ : ∃ B, B = (decide (0 ≤ root) && decide (root ≤ 2)) := ⟨_, rfl⟩
  rw [← hB]
  have h4 := fun W => within_any root 0 2 W
  rw [← hB] at h4
  have H1 := Lib.hid h1
  have H2 := Lib.hid h2
  have H4 := Lib.hid h4
  clear hB h1 h2 h4 hv0
  cases A
  · go_enter Tryd.func15, Tryd.ntmps15
    go_wp2_with fail
    refine (H1.out _ hgA).mono ?_
    rintro e w1 ⟨rfl, hb1⟩
    go_wp2
    go_ret
    exact ⟨rfl, hgA.tr hb1⟩
  · cases B
    · go_enter Tryd.func15, Tryd.ntmps15
      go_wp2_with fail
      refine (H1.out _ hgA).mono ?_
      rintro e w1 ⟨rfl, hb1⟩
      go_wp2_with fail
      refine (H4.out _).mono ?_
      rintro e w' ⟨rfl, rfl⟩
      go_wp2
      go_ret
      exact ⟨rfl, hgA.tr hb1⟩
    · go_enter Tryd.func15, Tryd.ntmps15
      go_wp2_with fail
      refine (H1.out _ hgA).mono ?_
      rintro e w1 ⟨rfl, hb1⟩
      go_wp2_with fail
      refine (H4.out _).mono ?_
      rintro e w' ⟨rfl, rfl⟩
      go_wp2_with fail
      refine (H2.out _ (hok.gr (hgA.tr hb1))).mono ?_
      rintro e w2 ⟨rfl, hb2⟩
      go_wp2
      go_ret
      exact ⟨rfl, (hgA.tr hb1).tr hb2⟩
theorem iHasDir_any {lo hi : Nat} (v : Value) (L : List FR) (root : Int) (p : ByteArray) (w : World) (hok : OkW w) (hv0 : FlR w lo hi v L) (hhi : hi ≤ w.heap.size) (hsm : ∀ r ∈ L, SmF r) (hp : p.size ≤ 4194304) :
    Calls Tryd.prog 7 #[.agg #[v], .int .i64 root, .string p] w fun e w' => e = .returned (.bool (fHas (L.map (·.1)) root (bs p))) ∧ Gr w w' := by
  obtain ⟨a, c, rfl, _, _⟩ := hv0.1.form
  have hA := heap_alloc_new w (.cells #[.slice a L.length c] 29)
  have hgA := gr_al w (.cells #[.slice a L.length c] 29)
  have h1 := fun W (h : Gr w W) => idirOk_any _ L root p W (hok.gr h) (hv0.below h hhi) (Nat.le_trans hhi h.size) hsm hp
  have h3 := fun W (h : Gr w W) => ihasDir_any _ L root p W (hok.gr h) (hv0.below h hhi) (Nat.le_trans hhi h.size) hsm hp
  have hfe : fHas (L.map (·.1)) root (bs p) = ((okTree (L.map (·.1)) && (decide (0 ≤ root) && decide (root ≤ 2)) && vPkg (bs p)) && hasI (L.map (·.1)) root (bs p)) := by
    unfold fHas
    by_cases hT : okTree (L.map (·.1)) = true
    · by_cases hP : vPkg (bs p) = true
      · rw [has_eq hT hP]
      · rw [(Bool.not_eq_true _).mp hP]; simp
    · rw [(Bool.not_eq_true _).mp hT]; simp
  rw [hfe]
  generalize (okTree (L.map (·.1)) && (decide (0 ≤ root) && decide (root ≤ 2)) && vPkg (bs p)) = A at h1
  generalize hasI (L.map (·.1)) root (bs p) = S at h3
  have H1 := Lib.hid h1
  have H3 := Lib.hid h3
  clear h1 h3 hv0 hfe
  cases A
  · go_enter Tryd.func7, Tryd.ntmps7
    go_wp2_with fail
    refine (H1.out _ hgA).mono ?_
    rintro e w1 ⟨rfl, hb1⟩
    go_wp2
    go_ret
    exact ⟨rfl, hgA.tr hb1⟩
  · go_enter Tryd.func7, Tryd.ntmps7
    go_wp2_with fail
    refine (H1.out _ hgA).mono ?_
    rintro e w1 ⟨rfl, hb1⟩
    have c0 := (row1 ((hb1.block _ (by simp)).trans hA)).1
    go_wp2_with fail
    refine (H3.out _ (hgA.tr hb1)).mono ?_
    rintro e w3 ⟨rfl, hb3⟩
    go_wp2
    go_ret
    exact ⟨rfl, (hgA.tr hb1).tr hb3⟩
theorem smF_of {L M : List FR} (h : ∀ r ∈ L, SmF r) (e : M.map (·.1) = L.map (·.1)) : ∀ r ∈ M, SmF r := by
  intro r hr
  have : r.1 ∈ L.map (·.1) := by rw [← e]; exact List.mem_map_of_mem hr
  rw [List.mem_map] at this
  obtain ⟨r', hr', e'⟩ := this
  have := h r' hr'
  unfold SmF at this ⊢
  rw [← e']; exact this
theorem walk_FnExactHasDir (w : World) (hok : OkW w) (v : Value) (L : List FR) (hL : ∃ u, v = .agg #[u] ∧ FlR w 0 w.heap.size u L ∧ ∀ r ∈ L, okF r.1) (root : Int) (hroot : -9223372036854775808 ≤ root ∧ root ≤ 9223372036854775807) (p : ByteArray) (hpm : p.size ≤ maxLen) :
    Calls Tryd.prog 3 #[v, .int .i64 root, .string p] w fun e w' => e = .returned (.bool true) ∧ Below w.heap.size w w' := by
  obtain ⟨u, rfl, hfl, hsz⟩ := hL
  obtain ⟨ua, uc, rfl, _, _⟩ := hfl.1.form
  have hA := heap_alloc_new w (.cells #[.slice ua L.length uc] 24)
  have hgA := gr_al w (.cells #[.slice ua L.length uc] 24)
  have hbW := fun W (h : Gr w W) => hfl.below h (Nat.le_refl _)
  have HB := Lib.hid hbW
  have HA := Lib.hid hA
  clear hfl hbW hA
  unfold maxLen at hpm
  by_cases hbig : p.size ≤ 1048576
  case neg =>
    go_enter Tryd.func3, Tryd.ntmps3
    go_wp2
    go_ret
    exact ⟨rfl, hgA⟩
  go_enter Tryd.func3, Tryd.ntmps3
  go_wp2_with fail
  refine (szTree_any _ L _ _ (HB.out _ hgA) (by simp) hsz (by omega) (by omega)).mono ?_
  rintro e w1 ⟨q, rfl, hq, hql, hb1⟩
  have hg1 := Gr.tr hgA hb1
  by_cases h0 : q < 0
  · go_wp2
    go_ret
    exact ⟨rfl, hg1⟩
  · have htot := hq (by omega)
    have hlen : L.length ≤ 1048576 := by omega
    have hszF : ∀ r ∈ L, szF r.1 ≤ 1048576 := fun r hr => by have := totF_mem hr; omega
    have hbn : ∀ r ∈ L, r.1.body.length ≤ 1048576 := fun r hr => by have := hszF r hr; unfold szF at this; omega
    have hsmL : ∀ r ∈ L, SmF r := fun r hr => by
      have := hszF r hr
      unfold szF at this
      exact ⟨by omega, by omega, fun s hs => by have := totB_mem hs; omega⟩
    have h1 := fun lo hi vv (M : List FR) W k h (e : M.map (·.1) = L.map (·.1)) h' => sHasDir_any (lo := lo) (hi := hi) vv M root p W k h h' (smF_of hsmL e) (by omega)
    have h2 := fun lo hi vv (M : List FR) W k h (e : M.map (·.1) = L.map (·.1)) h' => iHasDir_any (lo := lo) (hi := hi) vv M root p W k h h' (smF_of hsmL e) (by omega)
    have h3 := fun W (h : Gr w W) => toTree_own _ L W (HB.out _ h) h.size hlen hbn
    obtain ⟨R, hR⟩ : ∃ R, R = fHas (L.map (·.1)) root (bs p) := ⟨_, rfl⟩
    have h1' : ∀ lo hi vv (M : List FR) W, OkW W → FlR W lo hi vv M → M.map (·.1) = L.map (·.1) → hi ≤ W.heap.size → Calls Tryd.prog 5 #[.agg #[vv], .int .i64 root, .string p] W fun e w' => e = .returned (.bool R) ∧ Gr W w' := by
      intro lo hi vv M W k h e h'
      have := h1 lo hi vv M W k h e h'
      rwa [e, ← hR] at this
    have h2' : ∀ lo hi vv (M : List FR) W, OkW W → FlR W lo hi vv M → M.map (·.1) = L.map (·.1) → hi ≤ W.heap.size → Calls Tryd.prog 7 #[.agg #[vv], .int .i64 root, .string p] W fun e w' => e = .returned (.bool R) ∧ Gr W w' := by
      intro lo hi vv M W k h e h'
      have := h2 lo hi vv M W k h e h'
      rwa [e, ← hR] at this
    have q2 : (R != R) = false := by simp
    have H1 := Lib.hid h1'
    have H2 := Lib.hid h2'
    have H3 := Lib.hid h3
    clear hq hql htot hR h1 h2 h3 h1' h2' hsz hszF hbn hsmL
    have c0 := (row1 ((hb1.block _ (by simp)).trans HA.out)).1
    have hgB := hb1
    go_wp2_with fail
    refine (H3.out _ hg1).mono ?_
    rintro e w2 ⟨u2, rfl, M2, hM2, ho2, hb2⟩
    have hg2 := hg1.tr hb2
    go_wp2_with fail
    refine (H1.out _ _ u2 M2 _ (hok.gr hg2) ho2.reads hM2 (Nat.le_refl _)).mono ?_
    rintro e w3 ⟨rfl, hb3⟩
    have hg3 := hg2.tr hb3
    have hgB := (hgB.tr hb2).tr hb3
    clear c0
    have c0 := (row1 ((hgB.block _ (by simp)).trans HA.out)).1
    go_wp2_with fail
    refine (H3.out _ hg3).mono ?_
    rintro e w4 ⟨u4, rfl, M4, hM4, ho4, hb4⟩
    have hg4 := hg3.tr hb4
    have hgB := hgB.tr hb4
    obtain ⟨a4, c4, e4, _, _⟩ := ho4.1.form
    have hX := heap_alloc_new w4 (.cells #[u4] 29)
    have hgX := gr_al w4 (.cells #[u4] 29)
    have r4 := fun W (h : Gr w4 W) => ho4.reads.below h (Nat.le_refl _)
    have R4 := Lib.hid r4
    have HX := Lib.hid hX
    have HM4 := Lib.hid hM4
    clear hX r4 c0 hM2 ho2 ho4 hM4
    subst e4
    go_wp2_with fail
    refine (H2.out _ _ _ M4 _ (hok.gr (hg4.tr hgX)) (R4.out _ hgX) HM4.out hgX.size).mono ?_
    rintro e w5 ⟨rfl, hb5⟩
    have hg5 := (hg4.tr hgX).tr hb5
    have hall : ∀ W, Gr w5 W → Gr w5 W ∧ W.cell? ⟨w.heap.size, 0, none⟩ = some (.slice ua L.length uc) ∧ W.cell? ⟨w4.heap.size, 0, none⟩ = some (.slice a4 M4.length c4) :=
      fun W h => ⟨h, (row1 (((((hgB.tr hgX).tr hb5).tr h).block _ (by simp)).trans HA.out)).1, (row1 (((hb5.tr h).block _ (by simp)).trans HX.out)).1⟩
    have HALL := Lib.hid hall
    clear hall
    go_wp2
    refine wp_region_held_drew (S := (fun W => Gr w5 W ∧ W.cell? ⟨w.heap.size, 0, none⟩ = some (.slice ua L.length uc) ∧ W.cell? ⟨w4.heap.size, 0, none⟩ = some (.slice a4 M4.length c4))) (by kernel_rfl) (HALL.out _ (below_drewN (Gr.rfl' w5) 1)) (fun hS0 => ?_)
    refine wpAnyH_take (i := 0) (v := ?_) rfl (by kernel_rfl) (by kernel_rfl) (by kernel_rfl) (fun _ _ _ h => h) (Or.inl ⟨by rfl, ?_⟩) hS0 ?_
    rotate_left
    · (intro W hSw; (try dsimp only at hSw); go_simp; try (with_reducible rfl))
    try simp only [Act.put, List.getElem_toArray, List.getElem_cons_succ, List.getElem_cons_zero, List.setIfInBounds_toArray, List.set_cons_zero, List.set_cons_succ]
    refine wpAnyH_take (i := 1) (v := ?_) rfl (by kernel_rfl) (by kernel_rfl) (by kernel_rfl) (fun _ _ _ h => h) (Or.inl ⟨by rfl, ?_⟩) hS0 ?_
    rotate_left
    · (intro W hSw; (try dsimp only at hSw); go_simp; try (with_reducible rfl))
    try simp only [Act.put, List.getElem_toArray, List.getElem_cons_succ, List.getElem_cons_zero, List.setIfInBounds_toArray, List.set_cons_zero, List.set_cons_succ]
    refine wpAnyH_ready (rs := [2]) (by kernel_rfl) (by simp) ?_
    refine AllReadyH.cons rfl (fun K hK => ?_) AllReadyH.nil
    go_simp
    refine (H3.out _ (hg5.tr hS0.1)).mono ?_
    rintro e w6 ⟨u6, rfl, M6, hM6, ho6, hb6⟩
    try go_wp2_with fail
    refine hK.out _ _ (HALL.out _ (hS0.1.tr hb6)) (fun hS1 => ?_)
    clear hK K
    try simp only [Act.put, List.getElem_toArray, List.getElem_cons_succ, List.getElem_cons_zero, List.setIfInBounds_toArray, List.set_cons_zero, List.set_cons_succ]
    refine wpAnyH_ready (rs := [3]) (by kernel_rfl) (by simp) ?_
    refine AllReadyH.cons rfl (fun K hK => ?_) AllReadyH.nil
    go_simp
    refine (eqTree_any _ u6 M4 M6 _ (R4.out _ ((hgX.tr hb5).tr hS1.1)) ho6.reads (HM4.out.trans hM6.symm) ((hgX.tr hb5).tr hS1.1).size (Nat.le_refl _)).mono ?_
    rintro e w7 ⟨rfl, hb7⟩
    try go_wp2_with fail
    refine hK.out _ _ (HALL.out _ (hS1.1.tr hb7)) (fun hS2 => ?_)
    clear hK K
    try simp only [Act.put, List.getElem_toArray, List.getElem_cons_succ, List.getElem_cons_zero, List.setIfInBounds_toArray, List.set_cons_zero, List.set_cons_succ]
    refine wpAnyH_take (i := 4) (v := ?_) rfl (by kernel_rfl) (by kernel_rfl) (by kernel_rfl) (fun _ _ _ h => h) (Or.inl ⟨by rfl, ?_⟩) hS2 ?_
    rotate_left
    · (intro W hSw; (try dsimp only at hSw); go_simp; try (with_reducible rfl))
    try simp only [Act.put, List.getElem_toArray, List.getElem_cons_succ, List.getElem_cons_zero, List.setIfInBounds_toArray, List.set_cons_zero, List.set_cons_succ]
    refine wpAnyH_done (by kernel_rfl) ?_ _
    go_wp2
    go_ret
    exact ⟨rfl, hg5.tr hS2.1⟩
end Go.Proofs.YtdlccnlhgobdlaaDoor
