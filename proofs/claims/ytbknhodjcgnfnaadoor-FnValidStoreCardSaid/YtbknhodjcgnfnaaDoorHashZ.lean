/-
  Walks: the size and the hash of a body, of both packages.
-/
import Derived.Test.YtbknhodjcgnfnaaDoorZ4
namespace Imp
open Go Go.RowKit
def mixP (n k : Int) : Int := (n * 131 + k + 1) % 1000003
def hOk (n : Int) : Prop := 0 ≤ n ∧ n < 1000003
theorem mixP_ok {n k : Int} (_ : hOk n) (_ : 0 ≤ k) : hOk (mixP n k) :=
  ⟨Int.emod_nonneg _ (by decide), Int.emod_lt_of_pos _ (by decide)⟩
def mixB (n : Int) (l : List UInt8) : Int := l.foldl (fun n c => mixP n (c.toNat : Int)) n
def mixT (n : Int) (l : List UInt8) : Int := mixP (mixB n l) 0
theorem mixB_take {n : Int} {l : List UInt8} {k : Nat} (h : k < l.length) : mixB n (l.take (k + 1)) = mixP (mixB n (l.take k)) (l[k].toNat : Int) := by
  unfold mixB
  rw [List.take_succ_eq_append_getElem h, List.foldl_append]; rfl
theorem mixB_ok : ∀ {l : List UInt8} {n : Int}, hOk n → hOk (mixB n l)
  | [], _, h => h
  | c :: l, n, h => mixB_ok (l := l) (n := mixP n (c.toNat : Int)) (mixP_ok h (by omega))
theorem mixT_ok {l : List UInt8} {n : Int} (h : hOk n) : hOk (mixT n l) := mixP_ok (mixB_ok h) (by omega)
def hashSt (n : Int) (s : Stm) : Int := mixT (mixT (mixP (mixP (mixP n s.kind) s.level) s.value) (bs s.mod)) (bs s.name)
def hashP (L : List Stm) : Int := L.foldl hashSt 1
def smSt (s : Stm) : Prop := (0 ≤ s.kind ∧ s.kind ≤ 1000) ∧ (0 ≤ s.level ∧ s.level ≤ 1000) ∧ (0 ≤ s.value ∧ s.value ≤ 1000)
theorem okStm_small {s : Stm} (h : okStm s = true) : smSt s := by
  unfold okStm at h
  unfold smSt
  split at h
  · rename_i hk; simp at h hk; omega
  · split at h
    · rename_i hk; simp at h hk; omega
    · split at h
      · rename_i hk; simp at h hk; omega
      · split at h
        · rename_i hk; simp at h hk; omega
        · split at h
          · rename_i hk; simp at h hk; omega
          · split at h
            · rename_i hk; simp at h hk; omega
            · cases h
theorem okBody_small {L : List Stm} (h : okBody L = true) : ∀ s ∈ L, smSt s := by
  unfold okBody at h
  rw [Bool.and_eq_true] at h
  exact fun s hs => okStm_small (List.all_eq_true.mp h.1 s hs)
theorem hashSt_ok {n : Int} {s : Stm} (h : hOk n) (hs : smSt s) : hOk (hashSt n s) :=
  mixT_ok (mixT_ok (mixP_ok (mixP_ok (mixP_ok h hs.1.1) hs.2.1.1) hs.2.2.1))
theorem hashP_go : ∀ {L : List Stm} {n : Int}, hOk n → (∀ s ∈ L, smSt s) → hOk (L.foldl hashSt n)
  | [], _, h, _ => h
  | s :: L, n, h, hs => hashP_go (L := L) (n := hashSt n s) (hashSt_ok h (hs s (List.mem_cons_self ..))) (fun x hx => hs x (List.mem_cons_of_mem _ hx))
theorem hashP_ok {L : List Stm} (hs : ∀ s ∈ L, smSt s) : hOk (hashP L) := hashP_go ⟨by decide, by decide⟩ hs
theorem hashP_take {L : List Stm} {k : Nat} (h : k < L.length) : hashP (L.take (k + 1)) = hashSt (hashP (L.take k)) L[k] := by
  unfold hashP
  rw [List.take_succ_eq_append_getElem h, List.foldl_append]; rfl
def fHash (L : List Stm) : Int := if okBody L then hashP L else -1
def fSize (L : List Stm) : Int := if okBody L then ((3 * L.length + totB L : Nat) : Int) else -1
theorem stm_cells {w : World} {b t : Nat} {x : Stm} (h : w.heap[b]? = some (.cells #[.int .i64 x.kind, .string x.mod, .int .i64 x.level, .string x.name, .int .i64 x.value] t (0, 0))) :
    w.cell? ⟨b, 0, none⟩ = some (.int .i64 x.kind) ∧ w.cell? ⟨b, 1, none⟩ = some (.string x.mod) ∧ w.cell? ⟨b, 2, none⟩ = some (.int .i64 x.level) ∧ w.cell? ⟨b, 3, none⟩ = some (.string x.name) ∧ w.cell? ⟨b, 4, none⟩ = some (.int .i64 x.value) :=
  ⟨by rw [cell_of_row w b 0 _ _ _ h]; rfl, by rw [cell_of_row w b 1 _ _ _ h]; rfl, by rw [cell_of_row w b 2 _ _ _ h]; rfl, by rw [cell_of_row w b 3 _ _ _ h]; rfl, by rw [cell_of_row w b 4 _ _ _ h]; rfl⟩
theorem keep_blk {w w' : World} {g b : Nat} {o : Obj} (h : w.heap[b]? = some o) (k : w.grownBy w' (some g)) (hne : b ≠ g) : w'.heap[b]? = some o :=
  (k.block b (lt_of_block h) (by intro e; injection e with e; exact hne e)).trans h
end Imp
namespace Go.Proofs.YtbknhodjcgnfnaaDoor
open Go Go.RowKit Imp
set_option linter.unusedVariables false

theorem ssizeOf_any {lo hi : Nat} (v : Value) (L : List Stm) (w : World) (hv : SlR w lo hi 5 eSt v L) (hhi : hi ≤ w.heap.size) (hl : L.length ≤ 16777216) (ht : totB L ≤ 16777216) :
    Calls Tryd.prog 45 #[v] w fun e w' => e = .returned (.int .i64 (3 * L.length + totB L : Nat)) ∧ Gr w w' := by
  obtain ⟨a, c, rfl, hc1, hc2, h3⟩ := hv
  unfold maxLen at hc2
  go_enter Tryd.func45, Tryd.ntmps45
  go_wp2
  go_loopw [3, 4] (fun n i wr => ∃ k : Nat, k ≤ L.length ∧ i = .int .i64 k ∧ n = .int .i64 (3 * k + totB (L.take k) : Nat) ∧ Gr w wr) (fun _ i _ => L.length - (intOf i).toNat)
  case atStart => exact ⟨0, Nat.zero_le _, rfl, by simp [totB], Gr.rfl' _⟩
  case round =>
    obtain ⟨k, hk, rfl, rfl, hgr⟩ := hrel
    by_cases hlt : k < L.length
    · obtain ⟨b, o, rfl, hbb, hc⟩ := h3 k hlt
      obtain ⟨x, hx⟩ : ∃ x, x = L[k] := ⟨_, rfl⟩
      obtain ⟨c0, c1, c2, c3, c4⟩ := cells_stm (w := wr) (b := b) (o := o) (k := k) (x := x) (fun j u hu => (hgr.cell (p := ⟨b, o + k * 5 + j, none⟩) (Nat.lt_of_lt_of_le hbb.2 hhi)).trans (hc j u (by rw [← hx]; exact hu)))
      have htk := totB_take hlt
      have htm := totB_mem (List.getElem_mem hlt)
      rw [← hx] at htk htm
      have htt : totB (L.take k) ≤ 16777216 := by
        have : totB L = totB (L.take k) + totB (L.drop k) := by
          conv => lhs; rw [← List.take_append_drop k L]
          generalize L.drop k = B
          induction L.take k with
          | nil => simp [totB]
          | cons x q ih => rw [List.cons_append, totB, totB, ih]; omega
        omega
      have HT := Lib.hid htk
      generalize totB (L.take k) = T at HT htt
      unfold szSt at htm HT
      clear hc h3 hx htk c0 c2 c4
      have hw1 : IntKind.i64.wrap (((3 * k + T : Nat) : Int) + 3) = ((3 * k + T : Nat) : Int) + 3 := IntWalk.i64_in _ (by omega)
      have hw2 : IntKind.i64.wrap (((3 * k + T : Nat) : Int) + 3 + (x.mod.size : Int)) = ((3 * k + T : Nat) : Int) + 3 + (x.mod.size : Int) := IntWalk.i64_in _ (by omega)
      have hw3 : IntKind.i64.wrap (((3 * k + T : Nat) : Int) + 3 + (x.mod.size : Int) + (x.name.size : Int)) = ((3 * k + T : Nat) : Int) + 3 + (x.mod.size : Int) + (x.name.size : Int) := IntWalk.i64_in _ (by omega)
      generalize hN : ((3 * k + T : Nat) : Int) = N at hw1 hw2 hw3
      have HN := Lib.hid hN
      clear hN
      go_wp2
      go_quiet (fail)
      go_wp2
      go_roundw
      case rel => exact ⟨k + 1, by omega, by go_num, by rw [HT.out, ← HN.out]; congr 1; omega, below_drewN hgr _⟩
      case measure => simp [intOf]; omega
    · have ek : L.take k = L := List.take_of_length_le (by omega)
      have ekl : k = L.length := by omega
      rw [ek]
      subst ekl
      go_wp2
      go_ret
      exact ⟨rfl, hgr⟩
theorem iSizeOf_any {lo hi : Nat} (v : Value) (L : List Stm) (w : World) (hv : SlR w lo hi 5 eSt v L) (hhi : hi ≤ w.heap.size) (hl : L.length ≤ 16777216) (ht : totB L ≤ 16777216) (hok : OkW w) :
    Calls Tryd.prog 13 #[v] w fun e w' => e = .returned (.int .i64 (fSize L)) ∧ Gr w w' := by
  have hv1 := iValidBody_any v L w hv hhi (fun s hs => Nat.le_trans (totB_mem hs) ht) hok
  have hvv := hv
  obtain ⟨a, c, rfl, hc1, hc2, h3⟩ := hv
  unfold maxLen at hc2
  unfold fSize
  cases hb : okBody L
  · rw [hb] at hv1
    go_enter Tryd.func13, Tryd.ntmps13
    go_wp2_with (go_at_call 19; refine hv1.mono ?_; rintro e w1 ⟨rfl, hb1⟩)
    go_ret
    exact ⟨rfl, hb1⟩
  · rw [hb] at hv1
    clear hb
    go_enter Tryd.func13, Tryd.ntmps13
    go_wp2_with (go_at_call 19; refine hv1.mono ?_; rintro e w1 ⟨rfl, hb1⟩)
    go_loopw [3, 11] (fun n i wr => ∃ k : Nat, k ≤ L.length ∧ i = .int .i64 k ∧ n = .int .i64 (3 * k + totB (L.take k) : Nat) ∧ Gr w wr) (fun _ i _ => L.length - (intOf i).toNat)
    case atStart => exact ⟨0, Nat.zero_le _, rfl, by simp [totB], hb1⟩
    case round =>
      obtain ⟨k, hk, rfl, rfl, hgr⟩ := hrel
      have hgs := hgr.size
      by_cases hlt : k < L.length
      · obtain ⟨b, o, rfl, hbb, hc⟩ := h3 k hlt
        obtain ⟨x, hx⟩ : ∃ x, x = L[k] := ⟨_, rfl⟩
        obtain ⟨c0, c1, c2, c3, c4⟩ := cells_stm (w := wr) (b := b) (o := o) (k := k) (x := x) (fun j u hu => (hgr.cell (p := ⟨b, o + k * 5 + j, none⟩) (Nat.lt_of_lt_of_le hbb.2 hhi)).trans (hc j u (by rw [← hx]; exact hu)))
        have htk := totB_take hlt
        have htm := totB_mem (List.getElem_mem hlt)
        rw [← hx] at htk htm
        have htt : totB (L.take k) ≤ 16777216 := by
          have : totB L = totB (L.take k) + totB (L.drop k) := by
            conv => lhs; rw [← List.take_append_drop k L]
            generalize L.drop k = B
            induction L.take k with
            | nil => simp [totB]
            | cons x q ih => rw [List.cons_append, totB, totB, ih]; omega
          omega
        have HT := Lib.hid htk
        generalize totB (L.take k) = T at HT htt
        unfold szSt at htm HT
        clear hc h3 hx htk
        have hw1 : IntKind.i64.wrap (3 + (x.mod.size : Int)) = 3 + (x.mod.size : Int) := IntWalk.i64_in _ (by omega)
        have hw2 : IntKind.i64.wrap (3 + (x.mod.size : Int) + (x.name.size : Int)) = 3 + (x.mod.size : Int) + (x.name.size : Int) := IntWalk.i64_in _ (by omega)
        have hw3 : IntKind.i64.wrap (((3 * k + T : Nat) : Int) + (3 + (x.mod.size : Int) + (x.name.size : Int))) = ((3 * k + T : Nat) : Int) + (3 + (x.mod.size : Int) + (x.name.size : Int)) := IntWalk.i64_in _ (by omega)
        generalize hN : ((3 * k + T : Nat) : Int) = N at hw3
        have HN := Lib.hid hN
        clear hN
        go_wp2
        go_roundw
        case rel => exact ⟨k + 1, by omega, by go_num, by rw [HT.out, ← HN.out]; congr 1; omega, hgr.alloc hgs _⟩
        case measure => simp [intOf]; omega
      · have ek : L.take k = L := List.take_of_length_le (by omega)
        have ekl : k = L.length := by omega
        rw [ek]
        subst ekl
        go_wp2
        go_ret
        exact ⟨rfl, hgr⟩
theorem smixed_any (n k : Int) (w : World) (hn : hOk n) (hk : 0 ≤ k ∧ k ≤ 1000) :
    Calls Tryd.prog 60 #[.int .i64 n, .int .i64 k] w fun e w' => e = .returned (.int .i64 (mixP n k)) ∧ w = w' := by
  obtain ⟨h1, h2⟩ := hn
  obtain ⟨h3, h4⟩ := hk
  have hw1 : IntKind.i64.wrap (n * 131) = n * 131 := IntWalk.i64_in _ (by omega)
  have hw2 : IntKind.i64.wrap (n * 131 + k) = n * 131 + k := IntWalk.i64_in _ (by omega)
  have hw3 : IntKind.i64.wrap (n * 131 + k + 1) = n * 131 + k + 1 := IntWalk.i64_in _ (by omega)
  go_enter Tryd.func60, Tryd.ntmps60
  go_wp2
  go_ret
  exact ⟨rfl, rfl⟩
theorem smixedText_any (n : Int) (s : ByteArray) (w : World) (hn : hOk n) (hs : s.size ≤ maxLen) :
    Calls Tryd.prog 61 #[.int .i64 n, .string s] w fun e w' => e = .returned (.int .i64 (mixT n (bs s))) ∧ w = w' := by
  unfold maxLen at hs
  have HN := Lib.hid hn
  go_enter Tryd.func61, Tryd.ntmps61
  go_wp2
  go_loop [0, 5] (fun m i => ∃ k : Nat, k ≤ s.size ∧ i = .int .i64 k ∧ m = .int .i64 (mixB n ((bs s).take k))) (fun _ i => s.size - (intOf i).toNat)
  case atStart => exact ⟨0, Nat.zero_le _, rfl, by rw [List.take_zero]; rfl⟩
  case round =>
    obtain ⟨k, hk, rfl, rfl⟩ := hrel
    by_cases hlt : k < s.size
    · have hb := mixB_take (n := n) (l := bs s) (k := k) hlt
      have hok := mixB_ok (l := (bs s).take k) HN.out
      have HB := Lib.hid hb
      generalize mixB n ((bs s).take k) = m at HB hok
      have hc0 : 0 ≤ (s[k].toNat : Int) ∧ (s[k].toNat : Int) ≤ 1000 := by have := UInt8.toNat_lt s[k]; omega
      have hwc : IntKind.i64.wrap (s[k].toNat : Int) = (s[k].toNat : Int) := IntWalk.i64_in _ (by omega)
      clear hb
      go_wp2_with (go_at_call 60; refine (smixed_any _ _ _ hok hc0).mono ?_; rintro e w' ⟨rfl, rfl⟩)
      go_round
      case rel => exact ⟨k + 1, by omega, by go_num, by rw [HB.out]; rfl⟩
      case measure => simp [intOf]; omega
    · have ek : (bs s).take k = bs s := List.take_of_length_le (by rw [bs_length]; omega)
      rw [ek]
      have hok := mixB_ok (l := bs s) HN.out
      go_wp2_with (go_at_call 60; refine (smixed_any _ _ _ hok (by omega)).mono ?_; rintro e w' ⟨rfl, rfl⟩)
      go_ret
      exact ⟨rfl, rfl⟩
theorem shashOf_any {lo hi : Nat} (v : Value) (L : List Stm) (w : World) (hv : SlR w lo hi 5 eSt v L) (hhi : hi ≤ w.heap.size) (hsm : ∀ s ∈ L, smSt s) (hst : ∀ s ∈ L, szSt s ≤ 16777216) :
    Calls Tryd.prog 46 #[v] w fun e w' => e = .returned (.int .i64 (hashP L)) ∧ Gr w w' := by
  obtain ⟨a, c, rfl, hc1, hc2, h3⟩ := hv
  unfold maxLen at hc2
  have HS := Lib.hid hsm
  have HT := Lib.hid hst
  clear hsm hst
  go_enter Tryd.func46, Tryd.ntmps46
  go_wp2
  go_loopw [3, 4] (fun n i wr => ∃ k : Nat, k ≤ L.length ∧ i = .int .i64 k ∧ n = .int .i64 (hashP (L.take k)) ∧ Gr w wr) (fun _ i _ => L.length - (intOf i).toNat)
  case atStart => exact ⟨0, Nat.zero_le _, rfl, rfl, Gr.rfl' _⟩
  case round =>
    obtain ⟨k, hk, rfl, rfl, hgr⟩ := hrel
    have hgs := hgr.size
    by_cases hlt : k < L.length
    · obtain ⟨b, o, rfl, hbb, hc⟩ := h3 k hlt
      obtain ⟨x, hx⟩ : ∃ x, x = L[k] := ⟨_, rfl⟩
      obtain ⟨c0, c1, c2, c3, c4⟩ := cells_stm (w := wr) (b := b) (o := o) (k := k) (x := x) (fun j u hu => (hgr.cell (p := ⟨b, o + k * 5 + j, none⟩) (Nat.lt_of_lt_of_le hbb.2 hhi)).trans (hc j u (by rw [← hx]; exact hu)))
      have hh := hashP_take hlt
      have hsz := HT.out _ (List.getElem_mem hlt)
      have hsx := HS.out _ (List.getElem_mem hlt)
      have hn0 := hashP_ok (L := L.take k) (fun s hs => HS.out s (List.mem_of_mem_take hs))
      rw [← hx] at hh hsz hsx
      have HH := Lib.hid hh
      generalize hashP (L.take k) = n at HH hn0
      obtain ⟨hk0, hk1, hk2⟩ := hsx
      unfold szSt at hsz
      have hm1 : x.mod.size ≤ maxLen := by unfold maxLen; omega
      have hm2 : x.name.size ≤ maxLen := by unfold maxLen; omega
      have hn1 := mixP_ok hn0 hk0.1
      have hn2 := mixP_ok hn1 hk1.1
      have hn3 := mixP_ok hn2 hk2.1
      have hn4 := mixT_ok (l := bs x.mod) hn3
      have hx0 := heap_alloc_new wr (.cells #[.int .i64 x.kind, .string x.mod, .int .i64 x.level, .string x.name, .int .i64 x.value] 60)
      have hG := hgr.alloc hgs (.cells #[.int .i64 x.kind, .string x.mod, .int .i64 x.level, .string x.name, .int .i64 x.value] 60)
      clear hc h3 hx hh hsz
      go_wp2
      generalize wr.alloc (.cells #[.int .i64 x.kind, .string x.mod, .int .i64 x.level, .string x.name, .int .i64 x.value] 60) = W at hx0 hG ⊢
      obtain ⟨e0, e1, e2, e3, e4⟩ := stm_cells hx0
      clear hx0
      go_quiet ((go_at_call 60; refine quiet_left (smixed_any _ _ _ ?_ ?_) <;> assumption))
      go_wp2
      go_quiet ((go_at_call 61; first | (refine quiet_add_left (smixedText_any _ _ _ ?_ ?_) <;> assumption) | (refine quiet_left (smixedText_any _ _ _ ?_ ?_) <;> assumption)))
      go_wp2
      go_roundw
      case rel => exact ⟨k + 1, by omega, by go_num, by rw [HH.out]; rfl, below_drewN hG _⟩
      case measure => simp [intOf]; omega
    · have ek : L.take k = L := List.take_of_length_le (by omega)
      rw [ek]
      go_wp2
      go_ret
      exact ⟨rfl, hgr⟩
end Go.Proofs.YtbknhodjcgnfnaaDoor
