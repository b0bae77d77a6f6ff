/-
  Walks: marks written into trees and read of them. Printed by treem.py.
-/
import Derived.Test.YtomndnlpogikdaaDoorOwnN
import Derived.Test.YtomndnlpogikdaaDoorTreeE
namespace Imp
open Go Go.RowKit
def filK (k n : Nat) : Fil := ⟨(k : Nat), mText (k + 1), mText (k + 2), (((k + 3 : Nat) : Int) % 3 == 0), ((k + 4 : Nat) : Int), marksB (k + 5) n⟩
def kF (k : Nat) : List Nat → Nat
  | [] => k
  | n :: r => kF (k + 5 + 5 * n) r
def marksF (k : Nat) : List Nat → List Fil
  | [] => []
  | n :: r => filK k n :: marksF (k + 5 + 5 * n) r
theorem kF_snoc : ∀ (k : Nat) (ns : List Nat) (n : Nat), kF k (ns ++ [n]) = kF k ns + 5 + 5 * n
  | k, [], n => rfl
  | k, m :: r, n => by rw [List.cons_append, kF, kF, kF_snoc]
theorem marksF_snoc : ∀ (k : Nat) (ns : List Nat) (n : Nat), marksF k (ns ++ [n]) = marksF k ns ++ [filK (kF k ns) n]
  | k, [], n => rfl
  | k, m :: r, n => by rw [List.cons_append, marksF, marksF, marksF_snoc, kF, List.cons_append]
theorem marksF_length : ∀ (k : Nat) (ns : List Nat), (marksF k ns).length = ns.length
  | k, [] => rfl
  | k, m :: r => by rw [marksF, List.length_cons, List.length_cons, marksF_length]
theorem marksF_get : ∀ (k : Nat) (ns : List Nat) (i : Nat) (h : i < ns.length), (marksF k ns)[i]? = some (filK (kF k (ns.take i)) ns[i])
  | k, m :: r, 0, h => rfl
  | k, m :: r, i + 1, h => by
    rw [marksF, List.getElem?_cons_succ, marksF_get _ r i (by simpa using h), List.take_succ_cons, kF]; rfl
theorem kF_le : ∀ (k : Nat) (ns : List Nat), k ≤ kF k ns
  | k, [] => Nat.le_refl _
  | k, n :: r => by rw [kF]; have := kF_le (k + 5 + 5 * n) r; omega
theorem kF_app : ∀ (k : Nat) (a b : List Nat), kF k (a ++ b) = kF (kF k a) b
  | k, [], b => rfl
  | k, n :: r, b => by rw [List.cons_append, kF, kF, kF_app]
theorem kF_take_le (k : Nat) (ns : List Nat) (j : Nat) : kF k (ns.take j) ≤ kF k ns := by
  have := kF_app k (ns.take j) (ns.drop j)
  rw [List.take_append_drop] at this
  rw [this]; exact kF_le _ _
theorem kF_take {ns : List Nat} {k j : Nat} (h : j < ns.length) : kF k (ns.take (j + 1)) = kF k (ns.take j) + 5 + 5 * ns[j] := by
  rw [List.take_succ_eq_append_getElem h, kF_snoc]
theorem kF_bound : ∀ (k : Nat) (L : List FR), kF k (L.map fun r => r.1.body.length) ≤ k + 5 * L.length + 5 * totF L
  | k, [] => by simp [kF]
  | k, x :: r => by
    have := kF_bound (k + 5 + 5 * x.1.body.length) r
    rw [List.map_cons, kF, List.length_cons, totF, szF]; omega
theorem lens_of {L M : List FR} (h : L.map (·.1) = M.map (·.1)) : (L.map fun r => r.1.body.length) = M.map fun r => r.1.body.length := by
  have := congrArg (List.map fun f : Fil => f.body.length) h
  simpa [List.map_map, Function.comp_def] using this
end Imp
namespace Go.Proofs.YtomndnlpogikdaaDoor
open Go Go.RowKit Imp
set_option linter.unusedVariables false
set_option linter.unusedSimpArgs false
set_option maxHeartbeats 3200000 in
theorem markFileS_any {base : Nat} (v : Value) (M : List FR) (w : World) (k0 : Nat) (ho : OwnN w base 38 6 eF 80 5 eSt Fil.body v M) (h0 : 1 ≤ k0) (hk : kF k0 (M.map fun r => r.1.body.length) ≤ 42949670) :
    Calls Tryd.prog 52 #[v, .int .i64 k0] w fun e w' => e = .returned (.int .i64 ((kF k0 (M.map fun r => r.1.body.length) : Nat) : Int)) ∧
      (∃ M' : List FR, M'.map (·.1) = marksF k0 (M.map fun r => r.1.body.length) ∧ M'.map (·.2) = M.map (·.2) ∧ OwnN w' base 38 6 eF 80 5 eSt Fil.body v M') ∧ ChgN (ownsN v M) w w' := by
  have ho0 := Lib.hid ho
  obtain ⟨a, c, rfl, hcc, hc2⟩ := ho.1.form
  obtain ⟨ns, hns⟩ : ∃ ns, ns = M.map fun r => r.1.body.length := ⟨_, rfl⟩
  rw [← hns] at hk ⊢
  have hnl : ns.length = M.length := by rw [hns, List.length_map]
  have HNS := Lib.hid hns
  clear ho hns
  go_enter Tryd.func52, Tryd.ntmps52
  go_wp2
  go_loopw [1, 5] (fun kk i wr => ∃ j K : Nat, ∃ A : List FR, j ≤ M.length ∧ i = .int .i64 j ∧ kk = .int .i64 K ∧ K = kF k0 (ns.take j) ∧ A.length = j ∧ A.map (·.1) = marksF k0 (ns.take j) ∧ A.map (·.2) = (M.map (·.2)).take j ∧
      OwnN wr base 38 6 eF 80 5 eSt Fil.body (.slice a M.length c) (A ++ M.drop j) ∧ ChgN (ownsN (.slice a M.length c) M) w wr) (fun _ i _ => M.length - (intOf i).toNat)
  case atStart => exact ⟨0, k0, [], Nat.zero_le _, rfl, rfl, by simp [kF], rfl, by simp [marksF], by simp, by simpa using ho0.out, ChgN.refl _ _⟩
  case round =>
    obtain ⟨j, K, A, hj, rfl, rfl, hK, hAl, hA1, hA2, hown, hgr⟩ := hrel
    have HK := Lib.hid hK
    have HA1 := Lib.hid hA1
    have HA2 := Lib.hid hA2
    clear hA1 hA2
    by_cases hlt : j < M.length
    · have hd : M.drop j = M[j] :: M.drop (j + 1) := List.drop_eq_getElem_cons hlt
      rw [hd] at hown
      have hxm : M[j] ∈ M := List.getElem_mem hlt
      have hnj : ns[j]'(by omega) = M[j].1.body.length := by simp [HNS.out]
      have hkt := kF_take (ns := ns) (k := k0) (j := j) (by omega)
      have hkl := kF_take_le k0 ns (j + 1)
      have hkf := kF_le k0 (ns.take j)
      have htk : ns.take (j + 1) = ns.take j ++ [ns[j]'(by omega)] := List.take_succ_eq_append_getElem (by omega)
      have h2k : (M.map (·.2)).take (j + 1) = (M.map (·.2)).take j ++ [M[j].2] := by rw [List.take_succ_eq_append_getElem (by simpa using hlt), List.getElem_map]
      rw [hnj] at hkt htk
      obtain ⟨x, hx⟩ : ∃ x, x = M[j] := ⟨_, rfl⟩
      rw [← hx] at hown hxm hkt htk h2k
      obtain ⟨B, hB⟩ : ∃ B, B = M.drop (j + 1) := ⟨_, rfl⟩
      rw [← hB] at hown
      obtain ⟨⟨root, pkg, name, init, stamp, body⟩, xv⟩ := x
      have hin : Own wr base 80 5 eSt xv body := hown.2.1 _ (List.mem_append_right _ (List.mem_cons_self ..))
      obtain ⟨na, nc, rfl, _, _⟩ := hin.form
      obtain ⟨b, c', e, hbb, hbl, hc', hcell, hfr⟩ := own_rowK (K := 6) (enc := eF) (fun _ => rfl) hown.1
      injection e with e1 e2 e3
      clear e2 e3
      subst e1
      simp only at hkt htk h2k
      obtain ⟨K1, hK1⟩ : ∃ K1 : Nat, K1 = K + 1 := ⟨_, rfl⟩
      obtain ⟨K2, hK2⟩ : ∃ K2 : Nat, K2 = K + 2 := ⟨_, rfl⟩
      obtain ⟨K3, hK3⟩ : ∃ K3 : Nat, K3 = K + 3 := ⟨_, rfl⟩
      obtain ⟨K4, hK4⟩ : ∃ K4 : Nat, K4 = K + 4 := ⟨_, rfl⟩
      obtain ⟨K5, hK5⟩ : ∃ K5 : Nat, K5 = K + 5 := ⟨_, rfl⟩
      have hw1 : IntKind.i64.wrap ((K : Int) + 1) = (K1 : Int) := by rw [IntWalk.i64_in _ (by omega)]; omega
      have hw2 : IntKind.i64.wrap ((K1 : Int) + 1) = (K2 : Int) := by rw [IntWalk.i64_in _ (by omega)]; omega
      have hw3 : IntKind.i64.wrap ((K2 : Int) + 1) = (K3 : Int) := by rw [IntWalk.i64_in _ (by omega)]; omega
      have hw4 : IntKind.i64.wrap ((K3 : Int) + 1) = (K4 : Int) := by rw [IntWalk.i64_in _ (by omega)]; omega
      have hw5 : IntKind.i64.wrap ((K4 : Int) + 1) = (K5 : Int) := by rw [IntWalk.i64_in _ (by omega)]; omega
      have m1 := fun W => markText_any K1 W (by omega) (by omega)
      have m2 := fun W => markText_any K2 W (by omega) (by omega)
      have m3 := fun W (h : Own W base 80 5 eSt (.slice na body.length nc) body) => markStmtS_any (.slice na body.length nc) body W K5 h (by omega) (by omega)
      obtain ⟨KN, hKN⟩ : ∃ KN : Nat, KN = K5 + 5 * body.length := ⟨_, rfl⟩
      have hKn : KN = kF k0 (ns.take (j + 1)) := by rw [hkt, ← hK, hKN]; omega
      rw [← hKN] at m3
      obtain ⟨I3, hI3⟩ : ∃ I3, ((K3 : Int) % 3 == 0) = I3 := ⟨_, rfl⟩
      have hend : (⟨(K : Int), mText K1, mText K2, I3, (K4 : Int), marksB K5 body.length⟩ : Fil) = filK (kF k0 (ns.take j)) body.length := by
        unfold filK; rw [← hI3, hK1, hK2, hK3, hK4, hK5, hK]
      generalize mText K1 = T1 at m1 hend
      generalize mText K2 = T2 at m2 hend
      have HE := Lib.hid hend
      have HKN := Lib.hid hKn
      have M1 := Lib.hid m1
      have M2 := Lib.hid m2
      have M3 := Lib.hid m3
      have HAl := Lib.hid hAl
      have HB := Lib.hid hB
      have HTK := Lib.hid htk
      have H2K := Lib.hid h2k
      have hp : ownsN (.slice (some ⟨b, 0, none⟩) M.length c) M b := Or.inl rfl
      have hp2 : ∀ i, Value.ownBlock (.slice na body.length nc) = some i → ownsN (.slice (some ⟨b, 0, none⟩) M.length c) M i := fun i q => Or.inr ⟨_, hxm, q⟩
      have HP := Lib.hid hp
      have HP2 := Lib.hid hp2
      have c0 := hcell 0 _ rfl
      have f0 := hfr (j * 6)
      rw [hAl, Nat.add_zero] at c0
      have o1 := OwnN.set (j := 0) (u := .int .i64 (K : Int)) (x' := (((⟨(K : Int), pkg, name, init, stamp, body⟩ : Fil), (.slice na body.length nc : Value)) : FR)) hown (fun _ => rfl) rfl (by decide) rfl rfl rfl
      rw [HAl.out, Nat.add_zero] at o1
      clear hcell hfr hK1 hK2 hK3 hK4 hK5 hKN hKn hx hd m1 m2 m3 hK hkt hkl hkf htk h2k hxm hAl hB hp hp2 hin hown hnj hend
      go_wp2_with fail
      refine (M1.out _).mono ?_
      rintro e w1 ⟨rfl, hb1⟩
      have o1' := o1.gr hb1
      obtain ⟨b', c1', e', _, hbl1, _, hcell1, hfr1⟩ := own_rowK (K := 6) (enc := eF) (fun _ => rfl) o1'.1
      injection e' with e1 e2 e3
      clear e2 e3
      injection e1 with e1
      injection e1 with e1
      subst e1
      have c1 := hcell1 1 _ rfl
      have f1 := hfr1 (j * 6 + 1)
      rw [HAl.out] at c1
      have o2 := OwnN.set (j := 1) (u := .string T1) (x' := (((⟨(K : Int), T1, name, init, stamp, body⟩ : Fil), (.slice na body.length nc : Value)) : FR)) o1' (fun _ => rfl) rfl (by decide) rfl rfl rfl
      rw [HAl.out] at o2
      have g1 := ((hgr.trans (ChgN.set wr b (j * 6) (.int .i64 (K : Int)) HP.out)).trans (ChgN.of_gr hb1)).trans (ChgN.set w1 b (j * 6 + 1) (.string T1) HP.out)
      clear hcell1 hfr1 c0 f0 o1 o1' hgr
      go_wp2_with fail
      refine (M2.out _).mono ?_
      rintro e w2 ⟨rfl, hb2⟩
      have o2' := o2.gr hb2
      obtain ⟨b', c2', e', _, hbl2, _, hcell2, hfr2⟩ := own_rowK (K := 6) (enc := eF) (fun _ => rfl) o2'.1
      injection e' with e1 e2 e3
      clear e2 e3
      injection e1 with e1
      injection e1 with e1
      subst e1
      have c2 := hcell2 2 _ rfl
      have f2 := hfr2 (j * 6 + 2)
      rw [HAl.out] at c2
      have o3 := OwnN.set (j := 2) (u := .string T2) (x' := (((⟨(K : Int), T1, T2, init, stamp, body⟩ : Fil), (.slice na body.length nc : Value)) : FR)) o2' (fun _ => rfl) rfl (by decide) rfl rfl rfl
      rw [HAl.out] at o3
      obtain ⟨b', c3', e', _, hbl3, _, hcell3, hfr3⟩ := own_rowK (K := 6) (enc := eF) (fun _ => rfl) o3.1
      injection e' with e1 e2 e3
      clear e2 e3
      injection e1 with e1
      injection e1 with e1
      subst e1
      have c3 := hcell3 3 _ rfl
      have f3 := hfr3 (j * 6 + 3)
      rw [HAl.out] at c3
      have o4 := OwnN.set (j := 3) (u := .bool I3) (x' := (((⟨(K : Int), T1, T2, I3, stamp, body⟩ : Fil), (.slice na body.length nc : Value)) : FR)) o3 (fun _ => rfl) rfl (by decide) rfl rfl rfl
      rw [HAl.out] at o4
      obtain ⟨b', c4', e', _, hbl4, _, hcell4, hfr4⟩ := own_rowK (K := 6) (enc := eF) (fun _ => rfl) o4.1
      injection e' with e1 e2 e3
      clear e2 e3
      injection e1 with e1
      injection e1 with e1
      subst e1
      have c4 := hcell4 4 _ rfl
      have f4 := hfr4 (j * 6 + 4)
      rw [HAl.out] at c4
      have o5 := OwnN.set (j := 4) (u := .int .i64 (K4 : Int)) (x' := (((⟨(K : Int), T1, T2, I3, (K4 : Int), body⟩ : Fil), (.slice na body.length nc : Value)) : FR)) o4 (fun _ => rfl) rfl (by decide) rfl rfl rfl
      rw [HAl.out] at o5
      obtain ⟨b', c5', e', _, hbl5, _, hcell5, hfr5⟩ := own_rowK (K := 6) (enc := eF) (fun _ => rfl) o5.1
      injection e' with e1 e2 e3
      clear e2 e3
      injection e1 with e1
      injection e1 with e1
      subst e1
      have c5 := hcell5 5 _ rfl
      rw [HAl.out] at c5
      have hin5 : Own _ base 80 5 eSt (.slice na body.length nc) body := o5.2.1 _ (List.mem_append_right _ (List.mem_cons_self ..))
      have g5 := (((g1.trans (ChgN.of_gr hb2)).trans (ChgN.set w2 b (j * 6 + 2) (.string T2) HP.out)).trans (ChgN.set _ b (j * 6 + 3) (.bool I3) HP.out)).trans (ChgN.set _ b (j * 6 + 4) (.int .i64 (K4 : Int)) HP.out)
      have O5 := Lib.hid o5
      have G5 := Lib.hid g5
      clear hcell2 hfr2 hcell3 hfr3 hcell4 hfr4 hcell5 hfr5 c1 f1 o2 o2' o3 o4 o5 g1 g5
      go_wp2_with fail
      refine (M3.out _ hin5).mono ?_
      rintro e w3 ⟨rfl, ho3, hg3⟩
      have o6 := OwnN.sub (x' := (((⟨(K : Int), T1, T2, I3, (K4 : Int), marksB K5 body.length⟩ : Fil), (.slice na body.length nc : Value)) : FR)) O5.out hg3 ho3 rfl rfl
      have O6 := Lib.hid o6
      have G6 := Lib.hid (G5.out.trans (ChgN.of_grown hg3 HP2.out))
      clear o6 ho3 hg3 hin5 c2 c3 c4 c5 f2 f3 f4
      go_wp2
      go_roundw
      case rel =>
        refine ⟨j + 1, KN, A ++ [(((⟨(K : Int), T1, T2, I3, (K4 : Int), marksB K5 body.length⟩ : Fil), (.slice na body.length nc : Value)) : FR)], by omega, by go_num, rfl, HKN.out, by rw [List.length_append, HAl.out]; rfl, ?_, ?_, by rw [← HB.out, List.append_assoc]; exact O6.out, G6.out⟩
        · rw [List.map_append, HA1.out, HTK.out, marksF_snoc, ← HE.out]; rfl
        · rw [List.map_append, HA2.out, H2K.out]; rfl
      case measure => simp [intOf]; omega
    · have hjl : j = M.length := by omega
      subst hjl
      have hKe := HK.out
      rw [← hnl, List.take_length] at hKe
      have hA1 := HA1.out
      have hA2 := HA2.out
      rw [← hnl, List.take_length] at hA1
      rw [List.take_of_length_le (by simp)] at hA2
      clear HK hK HA1 HA2
      subst hKe
      go_wp2
      go_ret
      exact ⟨rfl, ⟨A, hA1, hA2, by simpa using hown⟩, hgr⟩
theorem markTree_any {base : Nat} (v : Value) (M : List FR) (w : World) (k0 : Nat) (ho : OwnN w base 38 6 eF 80 5 eSt Fil.body v M) (h0 : 1 ≤ k0) (hk : kF k0 (M.map fun r => r.1.body.length) ≤ 42949670) :
    Calls Tryd.prog 18 #[.agg #[v], .int .i64 k0] w fun e w' => e = .returned (.int .i64 ((kF k0 (M.map fun r => r.1.body.length) : Nat) : Int)) ∧
      (∃ M' : List FR, M'.map (·.1) = marksF k0 (M.map fun r => r.1.body.length) ∧ M'.map (·.2) = M.map (·.2) ∧ OwnN w' base 38 6 eF 80 5 eSt Fil.body v M') ∧ ChgN (ownsN v M) w w' := by
  have h := fun o => markFileS_any v M (w.alloc o) k0 (ho.gr (gr_al w o)) h0 hk
  generalize kF k0 (M.map fun r => r.1.body.length) = R at h ⊢
  have H := Lib.hid h
  obtain ⟨ua, uc, rfl, _, _⟩ := ho.1.form
  clear h ho
  go_enter Tryd.func18, Tryd.ntmps18
  go_wp2_with fail
  refine (H.out _).mono ?_
  rintro e w2 ⟨rfl, hM, hb2⟩
  go_wp2
  go_ret
  exact ⟨rfl, hM, (ChgN.of_gr (gr_al w _)).trans hb2⟩
end Go.Proofs.YtomndnlpogikdaaDoor
