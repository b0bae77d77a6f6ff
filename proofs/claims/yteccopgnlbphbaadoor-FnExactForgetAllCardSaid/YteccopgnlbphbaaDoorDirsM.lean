/-
  Walks: marks written into directories; finders that forget all; the laws on finders.
-/
import Derived.Test.YteccopgnlbphbaaDoorDirsW
import Derived.Test.YteccopgnlbphbaaDoorOpen
namespace Imp
open Go Go.RowKit
def nmsT : List DR → Nat
  | [] => 0
  | s :: r => s.1.names.length + nmsT r
theorem nmsT_snoc : ∀ (l : List DR) (s : DR), nmsT (l ++ [s]) = nmsT l + s.1.names.length
  | [], s => by simp [nmsT]
  | x :: l, s => by rw [List.cons_append, nmsT, nmsT_snoc l s, nmsT]; omega
theorem nmsT_take {l : List DR} {k : Nat} (h : k < l.length) : nmsT (l.take (k + 1)) = nmsT (l.take k) + l[k].1.names.length := by
  rw [List.take_succ_eq_append_getElem h, nmsT_snoc]
theorem nmsT_app : ∀ (a b : List DR), nmsT (a ++ b) = nmsT a + nmsT b
  | [], b => by simp [nmsT]
  | x :: a, b => by rw [List.cons_append, nmsT, nmsT, nmsT_app a b]; omega
theorem nmsT_take_le (l : List DR) (k : Nat) : nmsT (l.take k) ≤ nmsT l := by
  have := nmsT_app (l.take k) (l.drop k)
  rw [List.take_append_drop] at this
  omega
theorem nmsT_totD : ∀ l : List DR, nmsT l ≤ totD l
  | [] => by simp [nmsT, totD]
  | x :: l => by have := nmsT_totD l; rw [nmsT, totD, szD]; omega
theorem nmsT_map : ∀ {l m : List DR}, l.map (·.1) = m.map (·.1) → nmsT l = nmsT m
  | [], [], _ => rfl
  | x :: l, [], h => by simp at h
  | [], y :: m, h => by simp at h
  | x :: l, y :: m, h => by
    rw [List.map_cons, List.map_cons] at h
    injection h with h1 h2
    rw [nmsT, nmsT, h1, nmsT_map h2]
/-- What is left of a finder that forgets all. -/
def fFor (T : List Dr) (fills hits : Int) : Int × Int := if okFd T fills hits then (fills, hits) else (0, 0)
end Imp
namespace Go.Proofs.YteccopgnlbphbaaDoor
open Go Go.RowKit Go.ChangeShapes Go.WideShapes Go.ChangeAt Go.Deep Imp
set_option linter.unusedVariables false
set_option linter.unusedSimpArgs false
section
variable {H : Type} {enc : TypeId × Value → H} {W : World} {base : Nat} {v : Value} {d : DataW H} {p : List MemPlace}
set_option maxRecDepth 100000 in
theorem row_dir {n : Nat} {cs : List Value} {y : DataW H × List MemPlace} {base : Nat} {spare : Nat → Bool} {held : Bool} (h : DataW.trod enc Tryd.prog W base spare held n 104 cs = some y) : ∃ z : DR, cs = eDr z ∧ (okD z.1 ∧ NmR W 0 W.heap.size z) := by
  obtain ⟨xs, n', _, _, hl, hxs, hf⟩ := DataW.trod_struct Tryd.underlying104 h
  have hl4 : cs.length = 4 := hl.trans (by kernel_rfl)
  obtain ⟨a, ha, qa⟩ := field_int (by kernel_rfl) Tryd.underlying3 (some_at hxs (by decide)) (hf 0 _ rfl)
  obtain ⟨b, hb, qb⟩ := field_string (by kernel_rfl) Tryd.underlying9 (some_at hxs (by decide)) (hf 1 _ rfl)
  obtain ⟨c, hc, qc⟩ := field_int (by kernel_rfl) Tryd.underlying3 (some_at hxs (by decide)) (hf 2 _ rfl)
  obtain ⟨u, hu, L, hL, qL⟩ := field_rows (k := 1) eS (fun s => s.size ≤ maxLen) (by kernel_rfl) Tryd.underlying102 (by kernel_rfl) (by decide) (fun n cs' y hy => by
    obtain ⟨s, rfl, _, hs⟩ := DataW.trod_string Tryd.underlying9 hy
    exact ⟨s, rfl, hs⟩) (some_at hxs (by decide)) (hf 3 _ rfl)
  refine ⟨(⟨a, b, c, L⟩, u), ?_, ⟨qa, qb, qc, qL⟩, hL⟩
  match cs, hl4 with
  | [x0, x1, x2, x3], _ =>
    have ha : x0 = _ := Option.some.inj ha
    have hb : x1 = _ := Option.some.inj hb
    have hc : x2 = _ := Option.some.inj hc
    have hu : x3 = _ := Option.some.inj hu
    rw [ha, hb, hc, hu]; rfl
set_option maxRecDepth 100000 in
theorem open_arg_finder (hv : Value.okWide Tryd.prog W .any base 24 v) (h : DataW.Trod enc Tryd.prog W 0 (fun _ => true) true 24 v d p) (_hs : (DataW.weights Tryd.prog 24 d).all (fun x => decide (x ≤ reachBytes)) = true) :
    ∃ L : List DR, ∃ u, ∃ fills hits : Int, v = vFd u fills hits ∧ DsR W 0 W.heap.size u L ∧ (∀ r ∈ L, okD r.1) ∧ okI fills ∧ okI hits := by
  obtain ⟨cs, rfl, _⟩ := okWide_struct Tryd.underlying24 hv
  obtain ⟨fuel, hf⟩ := h
  obtain ⟨xs, n', _, _, hl, hxs, hf⟩ := DataW.trod_struct Tryd.underlying24 hf
  have hl3 : (Value.cells (.agg cs)).toList.length = 3 := hl.trans (by kernel_rfl)
  obtain ⟨u, hu, L, hL, qL⟩ := field_rows (k := 4) eDr (fun z : DR => okD z.1 ∧ NmR W 0 W.heap.size z) (by kernel_rfl) Tryd.underlying22 (by kernel_rfl) (by decide) (fun n cs' y hy => row_dir hy) (some_at hxs (by decide)) (hf 0 _ rfl)
  obtain ⟨a, ha, qa⟩ := field_int (by kernel_rfl) Tryd.underlying3 (some_at hxs (by decide)) (hf 1 _ rfl)
  obtain ⟨b, hb, qb⟩ := field_int (by kernel_rfl) Tryd.underlying3 (some_at hxs (by decide)) (hf 2 _ rfl)
  have hu' : cs.toList[0]? = some u := by simpa [Value.cells] using hu
  have ha' : cs.toList[1]? = some (.int .i64 a) := by simpa [Value.cells] using ha
  have hb' : cs.toList[2]? = some (.int .i64 b) := by simpa [Value.cells] using hb
  have hl3' : cs.toList.length = 3 := by simpa [Value.cells] using hl3
  have e' : cs.toList = [u, .int .i64 a, .int .i64 b] := by
    match hcs : cs.toList, hl3' with
    | [x0, x1, x2], _ =>
      rw [hcs] at hu' ha' hb'
      have h0 : x0 = u := Option.some.inj hu'
      have h1 : x1 = _ := Option.some.inj ha'
      have h2 : x2 = _ := Option.some.inj hb'
      rw [h0, h1, h2]
  have : cs = #[u, .int .i64 a, .int .i64 b] := by
    have := congrArg List.toArray e'
    simpa using this
  exact ⟨L, u, a, b, by rw [this], ⟨hL, fun r hr => (qL r hr).2⟩, fun r hr => (qL r hr).1, qa, qb⟩
end
set_option maxHeartbeats 3200000 in
theorem markDirS_any {base : Nat} (v : Value) (M : List DR) (w : World) (k0 : Nat) (ho : OwnD w base 106 9 v M) (h0 : 1 ≤ k0) (hk : k0 + 3 * M.length + nmsT M ≤ 4294967) :
    Calls Tryd.prog 44 #[v, .int .i64 k0] w fun e w' => e = .returned (.int .i64 ((k0 + 3 * M.length + nmsT M : Nat) : Int)) ∧ ChgN (ownsN v M) w w' := by
  have ho0 := Lib.hid ho
  obtain ⟨a, c, rfl, hcc, hc2⟩ := ho.1.form
  clear ho
  go_enter Tryd.func44, Tryd.ntmps44
  go_wp2
  go_loopw [1, 5] (fun kk i wr => ∃ j K : Nat, ∃ A : List DR, j ≤ M.length ∧ i = .int .i64 j ∧ kk = .int .i64 K ∧ K = k0 + 3 * j + nmsT (M.take j) ∧ A.length = j ∧ OwnD wr base 106 9 (.slice a M.length c) (A ++ M.drop j) ∧ ChgN (ownsN (.slice a M.length c) M) w wr) (fun _ i _ => M.length - (intOf i).toNat)
  case atStart => exact ⟨0, k0, [], Nat.zero_le _, rfl, rfl, by simp [nmsT], rfl, by simpa using ho0.out, ChgN.refl _ _⟩
  case round =>
    obtain ⟨j, K, A, hj, rfl, rfl, hK, hAl, hown, hgr⟩ := hrel
    have HK := Lib.hid hK
    by_cases hlt : j < M.length
    · have hd : M.drop j = M[j] :: M.drop (j + 1) := List.drop_eq_getElem_cons hlt
      rw [hd] at hown
      have hxm : M[j] ∈ M := List.getElem_mem hlt
      have hnm := nmsT_take hlt
      have hnl := nmsT_take_le M (j + 1)
      obtain ⟨x, hx⟩ : ∃ x, x = M[j] := ⟨_, rfl⟩
      rw [← hx] at hown hxm hnm
      obtain ⟨B, hB⟩ : ∃ B, B = M.drop (j + 1) := ⟨_, rfl⟩
      rw [← hB] at hown
      obtain ⟨⟨root, pkg, stamp, names⟩, xv⟩ := x
      have hin : Own wr base 9 1 eS xv names := hown.2.1 _ (List.mem_append_right _ (List.mem_cons_self ..))
      obtain ⟨na, nc, rfl, _, _⟩ := hin.form
      obtain ⟨b, c', e, hbb, hbl, hc', hcell, hfr⟩ := own_rowK (K := 4) (enc := eDr) (fun _ => rfl) hown.1
      injection e with e1 e2 e3
      clear e2 e3
      subst e1
      simp only at hnm
      obtain ⟨K1, hK1⟩ : ∃ K1 : Nat, K1 = K + 1 := ⟨_, rfl⟩
      obtain ⟨K2, hK2⟩ : ∃ K2 : Nat, K2 = K + 2 := ⟨_, rfl⟩
      obtain ⟨K3, hK3⟩ : ∃ K3 : Nat, K3 = K + 3 := ⟨_, rfl⟩
      have hw1 : IntKind.i64.wrap ((K : Int) + 1) = (K1 : Int) := by rw [IntWalk.i64_in _ (by omega)]; omega
      have hw2 : IntKind.i64.wrap ((K1 : Int) + 1) = (K2 : Int) := by rw [IntWalk.i64_in _ (by omega)]; omega
      have hw3 : IntKind.i64.wrap ((K2 : Int) + 1) = (K3 : Int) := by rw [IntWalk.i64_in _ (by omega)]; omega
      have m1 := fun W => markText_any K1 W (by omega) (by omega)
      have m3 := fun W (h : Own W base 9 1 eS (.slice na names.length nc) names) => markStringS_any (.slice na names.length nc) names K3 W h (by omega) (by omega)
      have hKn : K3 + names.length = k0 + 3 * (j + 1) + nmsT (M.take (j + 1)) := by omega
      generalize mText K1 = T1 at m1
      obtain ⟨KN, hKN⟩ : ∃ KN : Nat, KN = K3 + names.length := ⟨_, rfl⟩
      rw [← hKN] at m3 hKn
      have HKN := Lib.hid hKn
      have M1 := Lib.hid m1
      have M3 := Lib.hid m3
      have HAl := Lib.hid hAl
      have HB := Lib.hid hB
      have hp : ownsN (.slice (some ⟨b, 0, none⟩) M.length c) M b := Or.inl rfl
      have hp2 : ∀ i, Value.ownBlock (.slice na names.length nc) = some i → ownsN (.slice (some ⟨b, 0, none⟩) M.length c) M i := fun i q => Or.inr ⟨_, hxm, q⟩
      have HP := Lib.hid hp
      have HP2 := Lib.hid hp2
      have c0 := hcell 0 _ rfl
      have f0 := hfr (j * 4)
      rw [hAl, Nat.add_zero] at c0
      have o1 := OwnN.set (j := 0) (u := .int .i64 (K : Int)) (x' := ((⟨(K : Int), pkg, stamp, names⟩ : Dr), (.slice na names.length nc : Value))) hown (fun _ => rfl) rfl (by decide) rfl rfl rfl
      rw [HAl.out, Nat.add_zero] at o1
      clear hcell hfr hK1 hK2 hK3 hKN hKn hx hd m1 m3 hK hnm hnl hxm hAl hB hp hp2 hin hown
      go_wp2_with fail
      refine (M1.out _).mono ?_
      rintro e w1 ⟨rfl, hb1⟩
      have o1' := o1.gr hb1
      obtain ⟨b', c1', e', _, hbl1, _, hcell1, hfr1⟩ := own_rowK (K := 4) (enc := eDr) (fun _ => rfl) o1'.1
      injection e' with e1 e2 e3
      clear e2 e3
      injection e1 with e1
      injection e1 with e1
      subst e1
      have c1 := hcell1 1 _ rfl
      have f1 := hfr1 (j * 4 + 1)
      rw [HAl.out] at c1
      have o2 := OwnN.set (j := 1) (u := .string T1) (x' := ((⟨(K : Int), T1, stamp, names⟩ : Dr), (.slice na names.length nc : Value))) o1' (fun _ => rfl) rfl (by decide) rfl rfl rfl
      rw [HAl.out] at o2
      obtain ⟨b', c2', e', _, hbl2, _, hcell2, hfr2⟩ := own_rowK (K := 4) (enc := eDr) (fun _ => rfl) o2.1
      injection e' with e1 e2 e3
      clear e2 e3
      injection e1 with e1
      injection e1 with e1
      subst e1
      have c2 := hcell2 2 _ rfl
      have f2 := hfr2 (j * 4 + 2)
      rw [HAl.out] at c2
      have o3 := OwnN.set (j := 2) (u := .int .i64 (K2 : Int)) (x' := ((⟨(K : Int), T1, (K2 : Int), names⟩ : Dr), (.slice na names.length nc : Value))) o2 (fun _ => rfl) rfl (by decide) rfl rfl rfl
      rw [HAl.out] at o3
      obtain ⟨b', c3', e', _, hbl3, _, hcell3, hfr3⟩ := own_rowK (K := 4) (enc := eDr) (fun _ => rfl) o3.1
      injection e' with e1 e2 e3
      clear e2 e3
      injection e1 with e1
      injection e1 with e1
      subst e1
      have c3 := hcell3 3 _ rfl
      rw [HAl.out] at c3
      have hin3 : Own _ base 9 1 eS (.slice na names.length nc) names := o3.2.1 _ (List.mem_append_right _ (List.mem_cons_self ..))
      have g3 := (((hgr.trans (ChgN.set wr b (j * 4) (.int .i64 (K : Int)) HP.out)).trans (ChgN.of_gr hb1)).trans (ChgN.set w1 b (j * 4 + 1) (.string T1) HP.out)).trans (ChgN.set _ b (j * 4 + 2) (.int .i64 (K2 : Int)) HP.out)
      have O3 := Lib.hid o3
      have G3 := Lib.hid g3
      clear hcell1 hfr1 hcell2 hfr2 hcell3 hfr3 c0 f0 o1 o1' o2 o3 g3 hgr
      go_wp2_with fail
      refine (M3.out _ hin3).mono ?_
      rintro e w2 ⟨rfl, ho2, hg2⟩
      have o4 := OwnN.sub (x' := ((⟨(K : Int), T1, (K2 : Int), marksS K3 names.length⟩ : Dr), (.slice na names.length nc : Value))) O3.out hg2 ho2 rfl rfl
      have O4 := Lib.hid o4
      have G4 := Lib.hid (G3.out.trans (ChgN.of_grown hg2 HP2.out))
      clear o4 ho2 hg2 hin3 c1 c2 c3 f1 f2
      go_wp2
      go_roundw
      case rel => exact ⟨j + 1, KN, A ++ [((⟨(K : Int), T1, (K2 : Int), marksS K3 names.length⟩ : Dr), (.slice na names.length nc : Value))], by omega, by go_num, rfl, HKN.out, by rw [List.length_append, HAl.out]; rfl, by rw [← HB.out, List.append_assoc]; exact O4.out, G4.out⟩
      case measure => simp [intOf]; omega
    · have hjl : j = M.length := by omega
      subst hjl
      have hKe := HK.out
      rw [List.take_length] at hKe
      clear HK hK
      subst hKe
      go_wp2
      go_ret
      exact ⟨rfl, hgr⟩
theorem markDirS_nil (a : Option Addr) (c : Nat) (w : World) (k0 : Nat) (hc : c ≤ 9223372036854775807) (hk : k0 ≤ 4294967) : Calls Tryd.prog 44 #[.slice a 0 c, .int .i64 k0] w fun e w' => e = .returned (.int .i64 (k0 : Int)) ∧ Gr w w' := by
  go_enter Tryd.func44, Tryd.ntmps44
  go_wp2
  go_loop [1, 5] (fun k i => k = .int .i64 k0 ∧ i = .int .i64 0) (fun _ _ => 0)
  case atStart => exact ⟨rfl, rfl⟩
  case round =>
    obtain ⟨rfl, rfl⟩ := hrel
    go_wp2
    go_ret
    exact ⟨rfl, Gr.rfl' _⟩
theorem heldDirS_nil (a : Option Addr) (c : Nat) (w : World) (k0 : Nat) (hc : c ≤ 9223372036854775807) (hk : k0 ≤ 4294967) : Calls Tryd.prog 45 #[.slice a 0 c, .int .i64 k0] w fun e w' => e = .returned (.int .i64 (k0 : Int)) ∧ Gr w w' := by
  go_enter Tryd.func45, Tryd.ntmps45
  go_wp2
  go_loop [1, 5] (fun k i => k = .int .i64 k0 ∧ i = .int .i64 0) (fun _ _ => 0)
  case atStart => exact ⟨rfl, rfl⟩
  case round =>
    obtain ⟨rfl, rfl⟩ := hrel
    go_wp2
    go_ret
    exact ⟨rfl, Gr.rfl' _⟩
theorem markFinder_any {base : Nat} (v : Value) (M : List DR) (fills hits : Int) (w : World) (k0 : Nat) (ho : OwnD w base 106 9 v M) (h0 : 1 ≤ k0) (hk : k0 + 3 * M.length + nmsT M ≤ 4294967) :
    Calls Tryd.prog 14 #[vFd v fills hits, .int .i64 k0] w fun e w' => e = .returned (.int .i64 ((k0 + 3 * M.length + nmsT M : Nat) : Int)) ∧ ChgN (ownsN v M) w w' := by
  have h := fun o => markDirS_any v M (w.alloc o) k0 (ho.gr (gr_al w o)) h0 hk
  obtain ⟨R, hR⟩ : ∃ R : Nat, R = k0 + 3 * M.length + nmsT M := ⟨_, rfl⟩
  rw [← hR] at h ⊢
  have H := Lib.hid h
  obtain ⟨ua, uc, rfl, _, _⟩ := ho.1.form
  clear h hR ho
  go_enter Tryd.func14, Tryd.ntmps14
  go_wp2_with fail
  refine (H.out _).mono ?_
  rintro e w2 ⟨rfl, hb2⟩
  go_wp2
  go_ret
  exact ⟨rfl, (ChgN.of_gr (gr_al w _)).trans hb2⟩
theorem markFinder_nil (a : Option Addr) (fills hits : Int) (w : World) (k0 : Nat) (hk : k0 ≤ 4294967) :
    Calls Tryd.prog 14 #[vFd (.slice a 0 0) fills hits, .int .i64 k0] w fun e w' => e = .returned (.int .i64 (k0 : Int)) ∧ Gr w w' := by
  have h := fun o => markDirS_nil a 0 (w.alloc o) k0 (by omega) hk
  have H := Lib.hid h
  clear h
  go_enter Tryd.func14, Tryd.ntmps14
  go_wp2_with fail
  refine (H.out _).mono ?_
  rintro e w2 ⟨rfl, hb2⟩
  go_wp2
  go_ret
  exact ⟨rfl, (gr_al w _).tr hb2⟩
theorem heldFinder_nil (a : Option Addr) (fills hits : Int) (w : World) (k0 : Nat) (hk : k0 ≤ 4294967) :
    Calls Tryd.prog 15 #[vFd (.slice a 0 0) fills hits, .int .i64 k0] w fun e w' => e = .returned (.int .i64 (k0 : Int)) ∧ Gr w w' := by
  have h := fun o => heldDirS_nil a 0 (w.alloc o) k0 (by omega) hk
  have H := Lib.hid h
  clear h
  go_enter Tryd.func15, Tryd.ntmps15
  go_wp2_with fail
  refine (H.out _).mono ?_
  rintro e w2 ⟨rfl, hb2⟩
  go_wp2
  go_ret
  exact ⟨rfl, (gr_al w _).tr hb2⟩
theorem sForgetAll_any {lo hi : Nat} (v : Value) (L : List DR) (fills hits : Int) (w : World) (hok : OkW w) (hv : DsR w lo hi v L) (hhi : hi ≤ w.heap.size) (hsm : ∀ r ∈ L, SmD r) :
    Calls Tryd.prog 10 #[vFd v fills hits] w fun e w' => e = .returned (vFd (.slice none 0 0) (fFor (L.map (·.1)) fills hits).1 (fFor (L.map (·.1)) fills hits).2) ∧ Gr w w' := by
  obtain ⟨va, vc, rfl, _, _⟩ := hv.1.form
  have hg2 := gr_al2 w (.cells #[.slice va L.length vc, .int .i64 fills, .int .i64 hits] 28) (.cells #[.slice none 0 0, .int .i64 0, .int .i64 0] 28)
  have hA := (Below.heap_alloc (w.alloc (.cells #[.slice va L.length vc, .int .i64 fills, .int .i64 hits] 28)) (.cells #[.slice none 0 0, .int .i64 0, .int .i64 0] 28) w.heap.size (by simp)).trans (heap_alloc_new w (.cells #[.slice va L.length vc, .int .i64 fills, .int .i64 hits] 28))
  have hB := heap_alloc2_new w (.cells #[.slice va L.length vc, .int .i64 fills, .int .i64 hits] 28) (.cells #[.slice none 0 0, .int .i64 0, .int .i64 0] 28)
  have h := svalidFinder_any _ L fills hits ((w.alloc (.cells #[.slice va L.length vc, .int .i64 fills, .int .i64 hits] 28)).alloc (.cells #[.slice none 0 0, .int .i64 0, .int .i64 0] 28)) (hok.gr hg2) (hv.below hg2 hhi) (Nat.le_trans hhi hg2.size) hsm
  have hF : fFor (L.map (·.1)) fills hits = if okFd (L.map (·.1)) fills hits then (fills, hits) else (0, 0) := rfl
  obtain ⟨R, hR⟩ : ∃ R, okFd (L.map (·.1)) fills hits = R := ⟨_, rfl⟩
  obtain ⟨Q, hQ⟩ : ∃ Q, fFor (L.map (·.1)) fills hits = Q := ⟨_, rfl⟩
  rw [hR] at h
  rw [hQ, hR] at hF
  rw [hQ]
  have H := Lib.hid h
  have HF := Lib.hid hF
  have HA := Lib.hid hA
  have HB := Lib.hid hB
  obtain ⟨⟨a0, a1, a2⟩, _⟩ := rows3 hA
  clear h hF hA hB hR hQ
  go_enter Tryd.func10, Tryd.ntmps10
  go_wp2_with fail
  refine H.out.mono ?_
  rintro e w2 ⟨rfl, hb2⟩
  have hs2 := hb2.size
  simp only [World.size_alloc] at hs2
  have hA2 := (hb2.block w.heap.size (by simp <;> omega)).trans HA.out
  have hB2 := (hb2.block (w.heap.size + 1) (by simp <;> omega)).trans HB.out
  clear a0 a1 a2
  obtain ⟨⟨a0, a1, a2⟩, _⟩ := rows3 hA2
  obtain ⟨⟨b0, b1, b2⟩, f0, f1, f2⟩ := rows3 hB2
  have HB2 := Lib.hid hB2
  clear hA2 hB2
  cases R
  · have hF := HF.out
    simp only [Bool.false_eq_true, if_false] at hF
    subst hF
    go_wp2
    have hput := put3 HB2.out (.slice none 0 0) (.int .i64 0) (.int .i64 0)
    refine bodyPost_ret (results_cell_row rfl _ _ (w.heap.size + 1) 28 _ (0, 0) _ rfl hput.1 Tryd.underlying28 rfl (by kernel_rfl)) rfl ?_
    exact ⟨rfl, (hg2.tr hb2).grown hput.2 (by omega) (fun b hb => by injection hb with hb; omega)⟩
  · have hF := HF.out
    simp only [if_true] at hF
    subst hF
    go_wp2
    have hput := put3 HB2.out (.slice none 0 0) (.int .i64 fills) (.int .i64 hits)
    refine bodyPost_ret (results_cell_row rfl _ _ (w.heap.size + 1) 28 _ (0, 0) _ rfl hput.1 Tryd.underlying28 rfl (by kernel_rfl)) rfl ?_
    exact ⟨rfl, (hg2.tr hb2).grown hput.2 (by omega) (fun b hb => by injection hb with hb; omega)⟩
theorem iForgetAll_any {lo hi : Nat} (v : Value) (L : List DR) (fills hits : Int) (w : World) (hok : OkW w) (hv : DsR w lo hi v L) (hhi : hi ≤ w.heap.size) (hsm : ∀ r ∈ L, SmD r) :
    Calls Tryd.prog 12 #[vFd v fills hits] w fun e w' => ∃ a, e = .returned (vFd (.slice a 0 0) (fFor (L.map (·.1)) fills hits).1 (fFor (L.map (·.1)) fills hits).2) ∧ Gr w w' := by
  obtain ⟨va, vc, rfl, _, _⟩ := hv.1.form
  have hg2 := gr_al2 w (.cells #[.slice va L.length vc, .int .i64 fills, .int .i64 hits] 28) (.cells #[.slice none 0 0, .int .i64 0, .int .i64 0] 28)
  have hA := (Below.heap_alloc (w.alloc (.cells #[.slice va L.length vc, .int .i64 fills, .int .i64 hits] 28)) (.cells #[.slice none 0 0, .int .i64 0, .int .i64 0] 28) w.heap.size (by simp)).trans (heap_alloc_new w (.cells #[.slice va L.length vc, .int .i64 fills, .int .i64 hits] 28))
  have hB := heap_alloc2_new w (.cells #[.slice va L.length vc, .int .i64 fills, .int .i64 hits] 28) (.cells #[.slice none 0 0, .int .i64 0, .int .i64 0] 28)
  have h := iValidFinder_any _ L fills hits ((w.alloc (.cells #[.slice va L.length vc, .int .i64 fills, .int .i64 hits] 28)).alloc (.cells #[.slice none 0 0, .int .i64 0, .int .i64 0] 28)) (hok.gr hg2) (hv.below hg2 hhi) (Nat.le_trans hhi hg2.size) hsm
  have hF : fFor (L.map (·.1)) fills hits = if okFd (L.map (·.1)) fills hits then (fills, hits) else (0, 0) := rfl
  obtain ⟨R, hR⟩ : ∃ R, okFd (L.map (·.1)) fills hits = R := ⟨_, rfl⟩
  obtain ⟨Q, hQ⟩ : ∃ Q, fFor (L.map (·.1)) fills hits = Q := ⟨_, rfl⟩
  rw [hR] at h
  rw [hQ, hR] at hF
  rw [hQ]
  have H := Lib.hid h
  have HF := Lib.hid hF
  have HA := Lib.hid hA
  have HB := Lib.hid hB
  obtain ⟨⟨a0, a1, a2⟩, _⟩ := rows3 hA
  clear h hF hA hB hR hQ
  go_enter Tryd.func12, Tryd.ntmps12
  go_wp2_with fail
  refine H.out.mono ?_
  rintro e w2 ⟨rfl, hb2⟩
  have hs2 := hb2.size
  simp only [World.size_alloc] at hs2
  have hA2 := (hb2.block w.heap.size (by simp <;> omega)).trans HA.out
  have hB2 := (hb2.block (w.heap.size + 1) (by simp <;> omega)).trans HB.out
  clear a0 a1 a2
  cases R
  · have hF := HF.out
    simp only [Bool.false_eq_true, if_false] at hF
    subst hF
    obtain ⟨⟨b0, b1, b2⟩, f0, f1, f2⟩ := rows3 hB2
    have HB2 := Lib.hid hB2
    clear hA2 hB2
    go_wp2
    have hput := put3 HB2.out (.slice none 0 0) (.int .i64 0) (.int .i64 0)
    refine bodyPost_ret (results_cell_row rfl _ _ (w.heap.size + 1) 28 _ (0, 0) _ rfl hput.1 Tryd.underlying28 rfl (by kernel_rfl)) rfl ?_
    exact ⟨⟨none, rfl⟩, (hg2.tr hb2).grown hput.2 (by omega) (fun b hb => by injection hb with hb; omega)⟩
  · have hF := HF.out
    simp only [if_true] at hF
    subst hF
    have hg3 := gr_al w2 (.cells #[] 106)
    have hA3 := (hg3.block w.heap.size (by omega)).trans hA2
    have hB3 := (hg3.block (w.heap.size + 1) (by omega)).trans hB2
    obtain ⟨⟨a0, a1, a2⟩, _⟩ := rows3 hA3
    obtain ⟨⟨b0, b1, b2⟩, f0, f1, f2⟩ := rows3 hB3
    have HB3 := Lib.hid hB3
    clear hA2 hB2 hA3 hB3
    go_wp2
    have hput := put3 HB3.out (.slice (some ⟨w2.heap.size, 0, none⟩) 0 0) (.int .i64 fills) (.int .i64 hits)
    refine bodyPost_ret (results_cell_row rfl _ _ (w.heap.size + 1) 28 _ (0, 0) _ rfl hput.1 Tryd.underlying28 rfl (by kernel_rfl)) rfl ?_
    exact ⟨⟨some ⟨w2.heap.size, 0, none⟩, rfl⟩, ((hg2.tr hb2).tr hg3).grown hput.2 (by simp; omega) (fun b hb => by injection hb with hb; omega)⟩
end Go.Proofs.YteccopgnlbphbaaDoor
