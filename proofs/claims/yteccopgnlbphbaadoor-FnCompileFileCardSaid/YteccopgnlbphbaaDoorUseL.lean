/-
  Walks: bodies and compiled files compared by the laws; the law on files compiled. Printed by usel.py.
-/
import Derived.Test.YteccopgnlbphbaaDoorUse
import Derived.Test.YteccopgnlbphbaaDoorModsL
import Derived.Laws.ResultCell
namespace Imp
open Go Go.RowKit
theorem results_row_tmp {P : Program} {fn : Func} {p u : Tmp} {ty : TypeId} (h : fn.results = #[.cell p ty, .tmp u]) (tmps : Array Value) (w : World) (g : Nat) (t : TypeId) (cs : Array Value) (fr : Nat × Nat) (d : TypeDesc) (x : Value)
    (hp : tmps.getD p undef = .pointer (some ⟨g, 0, none⟩)) (hx : tmps.getD u undef = x) (hg : w.heap[g]? = some (.cells cs t fr))
    (hu : P.underlying ty = some d) (hd : (match d with | .struct _ | .array _ _ => true | _ => false) = true) (hi : (P.info? ty).map (·.size) = some cs.size) :
    (results fn tmps).run P w = .ok (.tuple #[.agg cs, x]) w := by
  have hp' : tmps[p]?.getD undef = .pointer (some ⟨g, 0, none⟩) := by simpa using hp
  have hx' : tmps[u]?.getD undef = x := by simpa using hx
  simp [results, h, hp', hx', asAddr, run_loadVar_row w g t ty cs fr d hg hu hd hi]
theorem results_row_row {P : Program} {fn : Func} {p p2 : Tmp} {ty ty2 : TypeId} (h : fn.results = #[.cell p ty, .cell p2 ty2]) (tmps : Array Value) (w : World) (g : Nat) (t : TypeId) (cs : Array Value) (fr : Nat × Nat) (d : TypeDesc)
    (g2 : Nat) (t2 : TypeId) (cs2 : Array Value) (fr2 : Nat × Nat) (d2 : TypeDesc)
    (hp : tmps.getD p undef = .pointer (some ⟨g, 0, none⟩)) (hp2 : tmps.getD p2 undef = .pointer (some ⟨g2, 0, none⟩)) (hg : w.heap[g]? = some (.cells cs t fr)) (hg2 : w.heap[g2]? = some (.cells cs2 t2 fr2))
    (hu : P.underlying ty = some d) (hd : (match d with | .struct _ | .array _ _ => true | _ => false) = true) (hi : (P.info? ty).map (·.size) = some cs.size)
    (hu2 : P.underlying ty2 = some d2) (hd2 : (match d2 with | .struct _ | .array _ _ => true | _ => false) = true) (hi2 : (P.info? ty2).map (·.size) = some cs2.size) :
    (results fn tmps).run P w = .ok (.tuple #[.agg cs, .agg cs2]) w := by
  have hp' : tmps[p]?.getD undef = .pointer (some ⟨g, 0, none⟩) := by simpa using hp
  have hp2' : tmps[p2]?.getD undef = .pointer (some ⟨g2, 0, none⟩) := by simpa using hp2
  simp [results, h, hp', hp2', asAddr, run_loadVar_row w g t ty cs fr d hg hu hd hi, run_loadVar_row w g2 t2 ty2 cs2 fr2 d2 hg2 hu2 hd2 hi2]
theorem cmpOf_ok {f : Fil} {mode : Int} (h : okFil f = true) (h1 : 0 ≤ mode) (h2 : mode ≤ 2) : okStore [cmpOf f mode] = true ∧ fUse (cmpOf f mode) f = true := by
  have hn := nameP_name h
  have h' := h
  unfold okFil at h'
  simp only [Bool.and_eq_true] at h'
  obtain ⟨⟨⟨⟨hr, _⟩, hs⟩, hb⟩, _⟩ := h'
  have hc : okCmp (cmpOf f mode) = true := by
    unfold okCmp cmpOf sizP
    simp only [bs_mk, hn, hb, hr, hs, decide_eq_true h1, decide_eq_true h2, bne_self_eq_false, Bool.not_false, Bool.and_self]
  have hst : okStore [cmpOf f mode] = true := by
    unfold okStore
    simp [List.range_succ, goodC, hc]
  refine ⟨hst, ?_⟩
  unfold fUse usab
  rw [hst, h]
  simp [cmpOf, sizP]
theorem noCmp_mod : bs noCmp.mod = [] := rfl
end Imp
namespace Go.Proofs.YteccopgnlbphbaaDoor
open Go Go.RowKit Imp
set_option linter.unusedVariables false
set_option linter.unusedSimpArgs false
theorem equalBody_any {lo hi lo' hi' : Nat} (v u : Value) (L : List Stm) (w : World) (hv : SlR w lo hi 5 eSt v L) (hu : SlR w lo' hi' 5 eSt u L) :
    Calls Tryd.prog 38 #[v, u] w fun e w' => e = .returned (.bool true) ∧ Gr w w' := by
  obtain ⟨a, c, rfl, h1, h2, h3⟩ := hv
  obtain ⟨a', c', rfl, h1', h2', h3'⟩ := hu
  unfold maxLen at h2 h2'
  go_enter Tryd.func38, Tryd.ntmps38
  go_wp2
  go_loopw [5] (fun i wr => ∃ k n : Nat, k ≤ L.length ∧ i = .int .i64 k ∧ wr = w.drewN n) (fun i _ => L.length - (intOf i).toNat)
  case atStart => exact ⟨0, 0, Nat.zero_le _, rfl, rfl⟩
  case round =>
    obtain ⟨k, n, hk, rfl, rfl⟩ := hrel
    by_cases hlt : k < L.length
    · obtain ⟨b, o, rfl, _, hc⟩ := h3 k hlt
      obtain ⟨b', o', rfl, _, hc'⟩ := h3' k hlt
      obtain ⟨x, hx⟩ : ∃ x, x = L[k] := ⟨_, rfl⟩
      rw [← hx] at hc hc'
      obtain ⟨c0, c1, c2, c3, c4⟩ := cells_stm (w := w) (b := b) (o := o) (k := k) (x := x) hc
      obtain ⟨d0, d1, d2, d3, d4⟩ := cells_stm (w := w) (b := b') (o := o') (k := k) (x := x) hc'
      have q0 : (x.kind == x.kind) = true := by simp
      have q1 : (x.mod.toList == x.mod.toList) = true := by simp
      have q2 : (x.level == x.level) = true := by simp
      have q3 : (x.name.toList == x.name.toList) = true := by simp
      have q4 : (x.value == x.value) = true := by simp
      clear hc hc' h3 h3' hx
      go_wp2
      go_quiet (fail)
      go_wp2
      go_roundw
      case rel => exact ⟨k + 1, _, by omega, by go_num, rfl⟩
      case measure => simp [intOf]; omega
    · go_wp2
      go_ret
      exact ⟨rfl, below_drewN (Gr.rfl' _) _⟩
theorem equalCompiled_any {lo hi lo' hi' : Nat} (c : Cmp) (u v : Value) (w : World) (hu : SlR w lo hi 5 eSt u c.body) (hv : SlR w lo' hi' 5 eSt v c.body) (hhi : hi ≤ w.heap.size) (hhi' : hi' ≤ w.heap.size) :
    Calls Tryd.prog 36 #[vCm c u, vCm c v] w fun e w' => e = .returned (.bool true) ∧ Gr w w' := by
  have h := fun o o' => equalBody_any u v c.body ((w.alloc o).alloc o') (SlR.below hu (gr_al2 w o o') hhi) (SlR.below hv (gr_al2 w o o') hhi')
  have H := Lib.hid h
  clear h
  obtain ⟨root, mod, init, mode, stamp, size, hash, body⟩ := c
  obtain ⟨ua, uc, rfl, _, _⟩ := hu.form
  obtain ⟨va, vc, rfl, _, _⟩ := hv.form
  have q1 : (mod.toList == mod.toList) = true := by simp
  have q2 : (root == root) = true := by simp
  have q3 : (init == init) = true := by simp
  have q4 : (mode == mode) = true := by simp
  have q5 : (stamp == stamp) = true := by simp
  have q6 : (size == size) = true := by simp
  have q7 : (hash == hash) = true := by simp
  go_enter Tryd.func36, Tryd.ntmps36
  go_wp2_with fail
  refine (H.out _ _).mono ?_
  rintro e w2 ⟨rfl, hb2⟩
  go_wp2
  go_ret
  exact ⟨rfl, (gr_al2 _ _ _).tr hb2⟩
theorem DrawCompileFile_any {lo hi : Nat} (v : Value) (L : List UInt8) (w : World) (hv : SlR w lo hi 1 eB v L) (hhi : hi ≤ w.heap.size) (hl : L.length ≤ 1048576) :
    Calls Tryd.prog 34 #[v] w fun e w' => ∃ f : Fil, ∃ u, ∃ mode : Int, e = .returned (.tuple #[vF (f, u), .int .i64 mode]) ∧ SlR w' w.heap.size w'.heap.size 5 eSt u f.body ∧ f.body.length ≤ 4 ∧ (∀ s ∈ f.body, s.mod.size ≤ 5 ∧ s.name.size ≤ 5) ∧ f.pkg.size ≤ 7 ∧ f.name.size ≤ 1 ∧ Gr w w' := by
  have hr0 := fun o => newReader_any v L (w.alloc o) (hv.below (gr_al w o) hhi) (by simp; omega) hl
  have HR0 := Lib.hid hr0
  clear hr0
  go_enter Tryd.func34, Tryd.ntmps34
  go_wp2_with fail
  refine (HR0.out _).mono ?_
  rintro e w1 ⟨rfl, hr, hsz, hb⟩
  have hsz' : w1.heap.size = w.heap.size + 1 + 1 := by rw [hsz]; simp
  have hz1 := (hb.block w.heap.size (by simp)).trans (heap_alloc_new w _)
  have hg1 : Gr w w1 := (gr_al w _).tr hb
  simp only [World.size_alloc] at hr
  go_wp2_with fail
  refine (anyFile_any (w.heap.size + 1) 0 w1 hr (by omega)).mono ?_
  rintro e w2 ⟨f, v2, p2, rfl, ho2, hll, hls, hpk, hnm, hr2, hp2, hg2⟩
  obtain ⟨va, vc, rfl, _, _⟩ := ho2.form
  have hob := ho2.block
  have hz2 := keep_blk hz1 hg2 (by omega)
  have hl2 := hg2.size
  go_wp2_with fail
  refine (one_lit (w.heap.size + 1) _ [0, 1, 2, 3, -1] w2 hr2 (by omega) (by decide) (by decide)).mono ?_
  rintro e w3 ⟨mode, rfl, _, hr3, hg3⟩
  have hz3 := keep_blk hz2 hg3 (by omega)
  have ho3 := Own.keepR ho2 hg3 (by omega)
  have hl3 := hg3.size
  obtain ⟨⟨a0, a1, a2, a3, a4, a5⟩, b0, b1, b2, b3, b4, b5⟩ := rows6 hz3
  have HZ := Lib.hid hz3
  have HLS := Lib.hid hls
  clear hz1 hz2 hz3 hls
  go_wp2
  have hput := put6 HZ.out (.int .i64 f.root) (.string f.pkg) (.string f.name) (.bool f.init) (.int .i64 f.stamp) (.slice va f.body.length vc)
  refine bodyPost_ret (results_row_tmp rfl _ _ w.heap.size 57 _ (0, 0) _ _ rfl rfl hput.1 Tryd.underlying57 rfl (by kernel_rfl)) rfl ?_
  have ho4 : Own _ w1.heap.size 99 5 eSt _ f.body := Own.keep ho3 (fun b hb => hput.2.block b (Nat.lt_of_lt_of_le (hob b hb).2 hl3) (by intro q; injection q with q; have := (hob b hb).1; omega))
  refine ⟨f, _, mode, rfl, (ho4.reads (fun _ _ => rfl)).mono (by omega) (Nat.le_refl _), hll, HLS.out, hpk, hnm, ?_⟩
  exact ((hg1.grown hg2 (by omega) (fun b hb => by injection hb with hb; omega)).grown hg3 (by omega) (fun b hb => by injection hb with hb; omega)).grown hput.2 (by omega) (fun b hb => by injection hb with hb; omega)
set_option maxHeartbeats 3200000 in
theorem walk_FnCompileFile (w : World) (hok : OkW w) (v : Value) (L : List UInt8) (hv : SlR w 0 w.heap.size 1 eB v L) :
    Calls Tryd.prog 8 #[v] w fun e w' => e = .returned (.bool true) ∧ Below w.heap.size w w' := by
  have hlen := hv.len_le
  have hv0 := hv
  obtain ⟨a, c, rfl, _, _⟩ := hv.form
  unfold maxLen at hlen
  by_cases hbig : L.length ≤ 1048576
  · have hd : decide ((1048576 : Int) < (L.length : Int)) = false := decide_eq_false (by omega)
    go_enter Tryd.func8, Tryd.ntmps8
    go_wp2_with fail
    refine (DrawCompileFile_any _ L _ hv0 (Nat.le_refl _) hbig).mono ?_
    rintro e w1 ⟨f, u, mode, rfl, hu, hml, hms, hpk, hnm, hb1⟩
    obtain ⟨ua, uc, rfl, _, _⟩ := hu.form
    have hok := hok.gr hb1
    have htb : totB f.body ≤ 40 := by have := totB_five hms; omega
    have hst : ∀ s ∈ f.body, szSt s ≤ 16777216 := fun s hs => by obtain ⟨h1, h2⟩ := hms s hs; unfold szSt; omega
    have hX := heap_alloc_new w1 (.cells #[.int .i64 f.root, .string f.pkg, .string f.name, .bool f.init, .int .i64 f.stamp, .slice ua f.body.length uc] 57)
    have hgX := gr_al w1 (.cells #[.int .i64 f.root, .string f.pkg, .string f.name, .bool f.init, .int .i64 f.stamp, .slice ua f.body.length uc] 57)
    have hbR := fun W (h : Gr w1 W) => SlR.below hu h (Nat.le_refl _)
    have h1 := fun W (h : Gr w1 W) => sCompileFile_any f (.slice ua f.body.length uc) mode W (hok.gr h) (hbR W h) h.size (by omega) (by omega) (by omega) (by omega)
    have h2 := fun W (h : Gr w1 W) => iCompileFile_any f (.slice ua f.body.length uc) mode W (hok.gr h) (hbR W h) h.size (by omega) (by omega) (by omega) (by omega)
    obtain ⟨C, hC⟩ : ∃ C, C = fCompile f mode := ⟨_, rfl⟩
    rw [← hC] at h1 h2
    have H1 := Lib.hid h1
    have H2 := Lib.hid h2
    have HX := Lib.hid hX
    have HB := Lib.hid hbR
    have HC := Lib.hid hC
    have HST := Lib.hid hst
    clear h1 h2 hX hbR hC hms hu hst
    go_wp2_with fail
    refine (H2.out _ hgX).mono ?_
    rintro e w2 ⟨cv, rfl, hoC, hb2⟩
    obtain ⟨ca, cc, rfl, _, _⟩ := hoC.form
    have hg2 := hgX.tr hb2
    have hrowC := heap_alloc_new w2 (.cells #[.int .i64 C.root, .string C.mod, .bool C.init, .int .i64 C.mode, .int .i64 C.stamp, .int .i64 C.size, .int .i64 C.hash, .slice ca C.body.length cc] 54)
    have hgC := gr_al w2 (.cells #[.int .i64 C.root, .string C.mod, .bool C.init, .int .i64 C.mode, .int .i64 C.stamp, .int .i64 C.size, .int .i64 C.hash, .slice ca C.body.length cc] 54)
    have hgC1 := hg2.tr hgC
    have hg := hb1.tr hgC1
    have hall : ∀ W, Gr (w2.alloc (.cells #[.int .i64 C.root, .string C.mod, .bool C.init, .int .i64 C.mode, .int .i64 C.stamp, .int .i64 C.size, .int .i64 C.hash, .slice ca C.body.length cc] 54)) W → Gr (w2.alloc (.cells #[.int .i64 C.root, .string C.mod, .bool C.init, .int .i64 C.mode, .int .i64 C.stamp, .int .i64 C.size, .int .i64 C.hash, .slice ca C.body.length cc] 54)) W ∧ (W.cell? ⟨w1.heap.size, 0, none⟩ = some (.int .i64 f.root) ∧ W.cell? ⟨w1.heap.size, 1, none⟩ = some (.string f.pkg) ∧ W.cell? ⟨w1.heap.size, 2, none⟩ = some (.string f.name) ∧ W.cell? ⟨w1.heap.size, 3, none⟩ = some (.bool f.init) ∧ W.cell? ⟨w1.heap.size, 4, none⟩ = some (.int .i64 f.stamp) ∧ W.cell? ⟨w1.heap.size, 5, none⟩ = some (.slice ua f.body.length uc)) ∧ (W.cell? ⟨w2.heap.size, 0, none⟩ = some (.int .i64 C.root) ∧ W.cell? ⟨w2.heap.size, 1, none⟩ = some (.string C.mod) ∧ W.cell? ⟨w2.heap.size, 2, none⟩ = some (.bool C.init) ∧ W.cell? ⟨w2.heap.size, 3, none⟩ = some (.int .i64 C.mode) ∧ W.cell? ⟨w2.heap.size, 4, none⟩ = some (.int .i64 C.stamp) ∧ W.cell? ⟨w2.heap.size, 5, none⟩ = some (.int .i64 C.size) ∧ W.cell? ⟨w2.heap.size, 6, none⟩ = some (.int .i64 C.hash) ∧ W.cell? ⟨w2.heap.size, 7, none⟩ = some (.slice ca C.body.length cc)) :=
      fun W h => ⟨h, cells6 HX.out ((hb2.tr hgC).tr h), (rows8 ((h.block w2.heap.size (by simp)).trans hrowC)).1⟩
    have hrC := fun W (h : Gr (w2.alloc (.cells #[.int .i64 C.root, .string C.mod, .bool C.init, .int .i64 C.mode, .int .i64 C.stamp, .int .i64 C.size, .int .i64 C.hash, .slice ca C.body.length cc] 54)) W) => SlR.below (hoC.reads (fun _ _ => rfl)) (hgC.tr h) (Nat.le_refl _)
    have hsC := fun W (h : Gr (w2.alloc (.cells #[.int .i64 C.root, .string C.mod, .bool C.init, .int .i64 C.mode, .int .i64 C.stamp, .int .i64 C.size, .int .i64 C.hash, .slice ca C.body.length cc] 54)) W) => (hgC.tr h).size
    have HALL := Lib.hid hall
    have HRC := Lib.hid hrC
    have HSC := Lib.hid hsC
    clear hall hrowC hrC hoC hsC
    have hRe := emp_of (rfl : bs C.mod = bs C.mod)
    have HRe := Lib.hid hRe
    by_cases hF : okFil f = true ∧ 0 ≤ mode ∧ mode ≤ 2
    · obtain ⟨hF, hm1, hm2⟩ := hF
      have hCe := HC.out
      rw [fCompile_ok hF hm1 hm2] at hCe
      have hne : C.mod.toList.isEmpty = false := by
        rw [hRe, hCe]
        show (bs (mk (nameP f))).isEmpty = false
        rw [bs_mk]
        exact emp_false (vName_ne (nameP_name hF))
      obtain ⟨hkS, hkU⟩ := cmpOf_ok hF hm1 hm2
      rw [← hCe] at hkS hkU
      have hbd := okFil_body hF
      have hsz : C.size = fSize f.body := by rw [hCe, fSize_at hbd]; rfl
      have hhs : C.hash = fHash f.body := by rw [hCe, fHash_at hbd]; rfl
      have hbo : C.body = f.body := by rw [hCe]; rfl
      have hmo : C.mod.size ≤ 11 := by
        have := vName_length (nameP_name hF)
        rw [hCe]
        show (mk (nameP f)).size ≤ 11
        rw [mk_size]; exact this
      have hcl : C.body.length ≤ 4 := by rw [hbo]; exact hml
      have hct : totB C.body ≤ 40 := by rw [hbo]; exact htb
      have hq1 : (C.hash == fHash f.body) = true := by rw [hhs]; simp
      have hq2 : (C.size == fSize f.body) = true := by rw [hsz]; simp
      have h3 := fun W (h : Gr (w2.alloc (.cells #[.int .i64 C.root, .string C.mod, .bool C.init, .int .i64 C.mode, .int .i64 C.stamp, .int .i64 C.size, .int .i64 C.hash, .slice ca C.body.length cc] 54)) W) => iIsUsable_any C f (.slice ca C.body.length cc) (.slice ua f.body.length uc) W (hok.gr (hgC1.tr h)) (HRC.out W h) (HSC.out W h) ⟨by show C.mod.size ≤ _; omega, by show C.body.length ≤ _; omega, by show totB C.body ≤ _; omega⟩ (HB.out W (hgC1.tr h)) (hgC1.tr h).size (by omega) (by omega) (by omega) (by omega)
      have h4 := fun W n (h : Gr (w2.alloc (.cells #[.int .i64 C.root, .string C.mod, .bool C.init, .int .i64 C.mode, .int .i64 C.stamp, .int .i64 C.size, .int .i64 C.hash, .slice ca C.body.length cc] 54)) W) (q : n = W.heap.size) => iValidStore_any (.slice (some ⟨n, 0, none⟩) 1 1) [(C, .slice ca C.body.length cc)] (W.alloc (.cells #[.int .i64 C.root, .string C.mod, .bool C.init, .int .i64 C.mode, .int .i64 C.stamp, .int .i64 C.size, .int .i64 C.hash, .slice ca C.body.length cc] 54)) (hok.gr ((hgC1.tr h).tr (gr_al W _))) (by subst q; exact storeOne C (.slice ca C.body.length cc) 54 (HRC.out W h) (HSC.out W h)) (by simp) (fun r hr => by rw [List.mem_singleton] at hr; subst hr; exact ⟨by show C.mod.size ≤ _; omega, by show C.body.length ≤ _; omega, by show totB C.body ≤ _; omega⟩)
      have h5 : ∀ W (h : Gr (w2.alloc (.cells #[.int .i64 C.root, .string C.mod, .bool C.init, .int .i64 C.mode, .int .i64 C.stamp, .int .i64 C.size, .int .i64 C.hash, .slice ca C.body.length cc] 54)) W), Calls Tryd.prog 38 #[.slice ca C.body.length cc, .slice ua f.body.length uc] W fun e w' => e = .returned (.bool true) ∧ Gr W w' := by
        intro W h
        have h6 := HB.out W (hgC1.tr h)
        rw [← hbo] at h6
        exact equalBody_any _ _ C.body W (HRC.out W h) (by rw [← hbo]; exact h6)
      have h6 := fun W (h : Gr (w2.alloc (.cells #[.int .i64 C.root, .string C.mod, .bool C.init, .int .i64 C.mode, .int .i64 C.stamp, .int .i64 C.size, .int .i64 C.hash, .slice ca C.body.length cc] 54)) W) => iHashOf_any (.slice ua f.body.length uc) f.body W (HB.out W (hgC1.tr h)) (hgC1.tr h).size HST.out (hok.gr (hgC1.tr h))
      have h7 := fun W (h : Gr (w2.alloc (.cells #[.int .i64 C.root, .string C.mod, .bool C.init, .int .i64 C.mode, .int .i64 C.stamp, .int .i64 C.size, .int .i64 C.hash, .slice ca C.body.length cc] 54)) W) => iSizeOf_any (.slice ua f.body.length uc) f.body W (HB.out W (hgC1.tr h)) (hgC1.tr h).size (by omega) (by omega) (hok.gr (hgC1.tr h))
      simp only [List.map_cons, List.map_nil] at h4
      rw [hkS] at h4
      simp only [hkU] at h3
      have H3 := Lib.hid h3
      have H4 := Lib.hid h4
      have H5 := Lib.hid h5
      have H6 := Lib.hid h6
      have H7 := Lib.hid h7
      clear h3 h4 h5 h6 h7 hkS hkU hCe hF hsz hhs hbo hbd hRe
      go_wp2
      refine wp_region_held_drew (S := (fun W => Gr (w2.alloc (.cells #[.int .i64 C.root, .string C.mod, .bool C.init, .int .i64 C.mode, .int .i64 C.stamp, .int .i64 C.size, .int .i64 C.hash, .slice ca C.body.length cc] 54)) W ∧ (W.cell? ⟨w1.heap.size, 0, none⟩ = some (.int .i64 f.root) ∧ W.cell? ⟨w1.heap.size, 1, none⟩ = some (.string f.pkg) ∧ W.cell? ⟨w1.heap.size, 2, none⟩ = some (.string f.name) ∧ W.cell? ⟨w1.heap.size, 3, none⟩ = some (.bool f.init) ∧ W.cell? ⟨w1.heap.size, 4, none⟩ = some (.int .i64 f.stamp) ∧ W.cell? ⟨w1.heap.size, 5, none⟩ = some (.slice ua f.body.length uc)) ∧ (W.cell? ⟨w2.heap.size, 0, none⟩ = some (.int .i64 C.root) ∧ W.cell? ⟨w2.heap.size, 1, none⟩ = some (.string C.mod) ∧ W.cell? ⟨w2.heap.size, 2, none⟩ = some (.bool C.init) ∧ W.cell? ⟨w2.heap.size, 3, none⟩ = some (.int .i64 C.mode) ∧ W.cell? ⟨w2.heap.size, 4, none⟩ = some (.int .i64 C.stamp) ∧ W.cell? ⟨w2.heap.size, 5, none⟩ = some (.int .i64 C.size) ∧ W.cell? ⟨w2.heap.size, 6, none⟩ = some (.int .i64 C.hash) ∧ W.cell? ⟨w2.heap.size, 7, none⟩ = some (.slice ca C.body.length cc)))) (by kernel_rfl) (HALL.out _ (below_drewN (Gr.rfl' _) 1)) (fun hS0 => ?_)
      refine wpAnyH_take (i := 0) (v := ?_) rfl (by kernel_rfl) (by kernel_rfl) (by kernel_rfl) (fun _ _ _ h => h) (Or.inl ⟨by rfl, ?_⟩) hS0 ?_
      rotate_left
      · (intro W hSw; (try dsimp only at hSw); go_simp; try (with_reducible rfl))
      try simp only [Act.put, List.getElem_toArray, List.getElem_cons_succ, List.getElem_cons_zero, List.setIfInBounds_toArray, List.set_cons_zero, List.set_cons_succ]
      refine wpAnyH_take (i := 1) (v := ?_) rfl (by kernel_rfl) (by kernel_rfl) (by kernel_rfl) (fun _ _ _ h => h) (Or.inl ⟨by rfl, ?_⟩) hS0 ?_
      rotate_left
      · (intro W hSw; (try dsimp only at hSw); go_simp; try (with_reducible rfl))
      try simp only [Act.put, List.getElem_toArray, List.getElem_cons_succ, List.getElem_cons_zero, List.setIfInBounds_toArray, List.set_cons_zero, List.set_cons_succ]
      refine wpAnyH_take (i := 2) (v := ?_) rfl (by kernel_rfl) (by kernel_rfl) (by kernel_rfl) (fun _ _ _ h => h) (Or.inl ⟨by rfl, ?_⟩) hS0 ?_
      rotate_left
      · (intro W hSw; (try dsimp only at hSw); go_simp; try (with_reducible rfl))
      try simp only [Act.put, List.getElem_toArray, List.getElem_cons_succ, List.getElem_cons_zero, List.setIfInBounds_toArray, List.set_cons_zero, List.set_cons_succ]
      refine wpAnyH_ready (rs := [3]) (by kernel_rfl) (by simp) ?_
      refine AllReadyH.cons rfl (fun K hK => ?_) AllReadyH.nil
      go_simp
      refine (H1.out _ (hgC1.tr hS0.1)).mono ?_
      rintro e w3 ⟨u3, rfl, ho3, hb3⟩
      try go_wp2_with fail
      refine hK.out _ _ (HALL.out _ (hS0.1.tr hb3)) (fun hS1 => ?_)
      clear hK K
      try simp only [Act.put, List.getElem_toArray, List.getElem_cons_succ, List.getElem_cons_zero, List.setIfInBounds_toArray, List.set_cons_zero, List.set_cons_succ]
      refine wpAnyH_ready (rs := [4]) (by kernel_rfl) (by simp) ?_
      refine AllReadyH.cons rfl (fun K hK => ?_) AllReadyH.nil
      go_simp
      refine (equalCompiled_any C _ u3 _ (HRC.out _ hS1.1) (ho3.reads (fun _ _ => rfl)) (HSC.out _ hS1.1) (Nat.le_refl _)).mono ?_
      rintro e w4 ⟨rfl, hb4⟩
      try go_wp2_with fail
      refine hK.out _ _ (HALL.out _ (hS1.1.tr hb4)) (fun hS2 => ?_)
      clear hK K
      try simp only [Act.put, List.getElem_toArray, List.getElem_cons_succ, List.getElem_cons_zero, List.setIfInBounds_toArray, List.set_cons_zero, List.set_cons_succ]
      refine wpAnyH_take (i := 5) (v := ?_) rfl (by kernel_rfl) (by kernel_rfl) (by kernel_rfl) (fun _ _ _ h => h) (Or.inl ⟨by rfl, ?_⟩) hS2 ?_
      rotate_left
      · (intro W hSw; (try dsimp only at hSw); go_simp; try (with_reducible rfl))
      try simp only [Act.put, List.getElem_toArray, List.getElem_cons_succ, List.getElem_cons_zero, List.setIfInBounds_toArray, List.set_cons_zero, List.set_cons_succ]
      refine wpAnyH_take (i := 6) (v := ?_) rfl (by kernel_rfl) (by kernel_rfl) (by kernel_rfl) (fun _ _ _ h => h) (Or.inl ⟨by rfl, ?_⟩) hS2 ?_
      rotate_left
      · (intro W hSw; (try dsimp only at hSw); go_simp; try (with_reducible rfl))
      try simp only [Act.put, List.getElem_toArray, List.getElem_cons_succ, List.getElem_cons_zero, List.setIfInBounds_toArray, List.set_cons_zero, List.set_cons_succ]
      refine wpAnyH_take (i := 7) (v := ?_) rfl (by kernel_rfl) (by kernel_rfl) (by kernel_rfl) (fun _ _ _ h => h) (Or.inl ⟨by rfl, ?_⟩) hS2 ?_
      rotate_left
      · (intro W hSw; (try dsimp only at hSw); go_simp; try (with_reducible rfl))
      try simp only [Act.put, List.getElem_toArray, List.getElem_cons_succ, List.getElem_cons_zero, List.setIfInBounds_toArray, List.set_cons_zero, List.set_cons_succ]
      refine wpAnyH_take (i := 8) (v := ?_) rfl (by kernel_rfl) (by kernel_rfl) (by kernel_rfl) (fun _ _ _ h => h) (Or.inl ⟨by rfl, ?_⟩) hS2 ?_
      rotate_left
      · (intro W hSw; (try dsimp only at hSw); go_simp; try (with_reducible rfl))
      try simp only [Act.put, List.getElem_toArray, List.getElem_cons_succ, List.getElem_cons_zero, List.setIfInBounds_toArray, List.set_cons_zero, List.set_cons_succ]
      refine wpAnyH_take (i := 9) (v := ?_) rfl (by kernel_rfl) (by kernel_rfl) (by kernel_rfl) (fun _ _ _ h => h) (Or.inl ⟨by rfl, ?_⟩) hS2 ?_
      rotate_left
      · (intro W hSw; (try dsimp only at hSw); go_simp; try (with_reducible rfl))
      try simp only [Act.put, List.getElem_toArray, List.getElem_cons_succ, List.getElem_cons_zero, List.setIfInBounds_toArray, List.set_cons_zero, List.set_cons_succ]
      refine wpAnyH_take (i := 10) (v := ?_) rfl (by kernel_rfl) (by kernel_rfl) (by kernel_rfl) (fun _ _ _ h => h) (Or.inl ⟨by rfl, ?_⟩) hS2 ?_
      rotate_left
      · (intro W hSw; (try dsimp only at hSw); go_simp; try (with_reducible rfl))
      try simp only [Act.put, List.getElem_toArray, List.getElem_cons_succ, List.getElem_cons_zero, List.setIfInBounds_toArray, List.set_cons_zero, List.set_cons_succ]
      refine wpAnyH_done (by kernel_rfl) ?_ _
      go_wp2
      refine wp_region_held_drew (S := (fun W => Gr (w2.alloc (.cells #[.int .i64 C.root, .string C.mod, .bool C.init, .int .i64 C.mode, .int .i64 C.stamp, .int .i64 C.size, .int .i64 C.hash, .slice ca C.body.length cc] 54)) W ∧ (W.cell? ⟨w1.heap.size, 0, none⟩ = some (.int .i64 f.root) ∧ W.cell? ⟨w1.heap.size, 1, none⟩ = some (.string f.pkg) ∧ W.cell? ⟨w1.heap.size, 2, none⟩ = some (.string f.name) ∧ W.cell? ⟨w1.heap.size, 3, none⟩ = some (.bool f.init) ∧ W.cell? ⟨w1.heap.size, 4, none⟩ = some (.int .i64 f.stamp) ∧ W.cell? ⟨w1.heap.size, 5, none⟩ = some (.slice ua f.body.length uc)) ∧ (W.cell? ⟨w2.heap.size, 0, none⟩ = some (.int .i64 C.root) ∧ W.cell? ⟨w2.heap.size, 1, none⟩ = some (.string C.mod) ∧ W.cell? ⟨w2.heap.size, 2, none⟩ = some (.bool C.init) ∧ W.cell? ⟨w2.heap.size, 3, none⟩ = some (.int .i64 C.mode) ∧ W.cell? ⟨w2.heap.size, 4, none⟩ = some (.int .i64 C.stamp) ∧ W.cell? ⟨w2.heap.size, 5, none⟩ = some (.int .i64 C.size) ∧ W.cell? ⟨w2.heap.size, 6, none⟩ = some (.int .i64 C.hash) ∧ W.cell? ⟨w2.heap.size, 7, none⟩ = some (.slice ca C.body.length cc)))) (by kernel_rfl) (HALL.out _ (below_drewN hS2.1 1)) (fun hT0 => ?_)
      refine wpAnyH_take (i := 0) (v := ?_) rfl (by kernel_rfl) (by kernel_rfl) (by kernel_rfl) (fun _ _ _ h => h) (Or.inl ⟨by rfl, ?_⟩) hT0 ?_
      rotate_left
      · (intro W hSw; (try dsimp only at hSw); go_simp; try (with_reducible rfl))
      try simp only [Act.put, List.getElem_toArray, List.getElem_cons_succ, List.getElem_cons_zero, List.setIfInBounds_toArray, List.set_cons_zero, List.set_cons_succ]
      refine wpAnyH_take (i := 1) (v := ?_) rfl (by kernel_rfl) (by kernel_rfl) (by kernel_rfl) (fun _ _ _ h => h) (Or.inl ⟨by rfl, ?_⟩) hT0 ?_
      rotate_left
      · (intro W hSw; (try dsimp only at hSw); go_simp; try (with_reducible rfl))
      try simp only [Act.put, List.getElem_toArray, List.getElem_cons_succ, List.getElem_cons_zero, List.setIfInBounds_toArray, List.set_cons_zero, List.set_cons_succ]
      refine wpAnyH_ready (rs := [2]) (by kernel_rfl) (by simp) ?_
      refine AllReadyH.cons rfl (fun K hK => ?_) AllReadyH.nil
      go_simp
      refine (H3.out _ hT0.1).mono ?_
      rintro e w5 ⟨rfl, hb5⟩
      try go_wp2_with fail
      refine hK.out _ _ (HALL.out _ (hT0.1.tr hb5)) (fun hT1 => ?_)
      clear hK K
      try simp only [Act.put, List.getElem_toArray, List.getElem_cons_succ, List.getElem_cons_zero, List.setIfInBounds_toArray, List.set_cons_zero, List.set_cons_succ]
      refine wpAnyH_take (i := 3) (v := ?_) rfl (by kernel_rfl) (by kernel_rfl) (by kernel_rfl) (fun _ _ _ h => h) (Or.inl ⟨by rfl, ?_⟩) hT1 ?_
      rotate_left
      · (intro W hSw; (try dsimp only at hSw); go_simp; try (with_reducible rfl))
      try simp only [Act.put, List.getElem_toArray, List.getElem_cons_succ, List.getElem_cons_zero, List.setIfInBounds_toArray, List.set_cons_zero, List.set_cons_succ]
      refine wpAnyH_take (i := 4) (v := ?_) rfl (by kernel_rfl) (by kernel_rfl) (by kernel_rfl) (fun _ _ _ h => h) (Or.inl ⟨by rfl, ?_⟩) hT1 ?_
      rotate_left
      · (intro W hSw; (try dsimp only at hSw); go_simp; try (with_reducible rfl))
      try simp only [Act.put, List.getElem_toArray, List.getElem_cons_succ, List.getElem_cons_zero, List.setIfInBounds_toArray, List.set_cons_zero, List.set_cons_succ]
      refine wpAnyH_ready (rs := [5]) (by kernel_rfl) (by simp) ?_
      refine AllReadyH.cons rfl (fun K hK => ?_) AllReadyH.nil
      go_simp
      have hgb := hT1.1.tr (gr_al _ (.cells #[.int .i64 C.root, .string C.mod, .bool C.init, .int .i64 C.mode, .int .i64 C.stamp, .int .i64 C.size, .int .i64 C.hash, .slice ca C.body.length cc] 54))
      refine hK.out _ _ (HALL.out _ hgb) (fun hT2 => ?_)
      clear hK K
      try simp only [Act.put, List.getElem_toArray, List.getElem_cons_succ, List.getElem_cons_zero, List.setIfInBounds_toArray, List.set_cons_zero, List.set_cons_succ]
      refine wpAnyH_ready (rs := [6]) (by kernel_rfl) (by simp) ?_
      refine AllReadyH.cons rfl (fun K hK => ?_) AllReadyH.nil
      go_simp
      refine (H4.out _ _ hT1.1 (by simp)).mono ?_
      rintro e w6 ⟨rfl, hb6⟩
      try go_wp2_with fail
      refine hK.out _ _ (HALL.out _ (hT2.1.tr hb6)) (fun hT3 => ?_)
      clear hK K
      try simp only [Act.put, List.getElem_toArray, List.getElem_cons_succ, List.getElem_cons_zero, List.setIfInBounds_toArray, List.set_cons_zero, List.set_cons_succ]
      refine wpAnyH_take (i := 7) (v := ?_) rfl (by kernel_rfl) (by kernel_rfl) (by kernel_rfl) (fun _ _ _ h => h) (Or.inl ⟨by rfl, ?_⟩) hT3 ?_
      rotate_left
      · (intro W hSw; (try dsimp only at hSw); go_simp; try (with_reducible rfl))
      try simp only [Act.put, List.getElem_toArray, List.getElem_cons_succ, List.getElem_cons_zero, List.setIfInBounds_toArray, List.set_cons_zero, List.set_cons_succ]
      refine wpAnyH_take (i := 8) (v := ?_) rfl (by kernel_rfl) (by kernel_rfl) (by kernel_rfl) (fun _ _ _ h => h) (Or.inl ⟨by rfl, ?_⟩) hT3 ?_
      rotate_left
      · (intro W hSw; (try dsimp only at hSw); go_simp; try (with_reducible rfl))
      try simp only [Act.put, List.getElem_toArray, List.getElem_cons_succ, List.getElem_cons_zero, List.setIfInBounds_toArray, List.set_cons_zero, List.set_cons_succ]
      refine wpAnyH_take (i := 9) (v := ?_) rfl (by kernel_rfl) (by kernel_rfl) (by kernel_rfl) (fun _ _ _ h => h) (Or.inl ⟨by rfl, ?_⟩) hT3 ?_
      rotate_left
      · (intro W hSw; (try dsimp only at hSw); go_simp; try (with_reducible rfl))
      try simp only [Act.put, List.getElem_toArray, List.getElem_cons_succ, List.getElem_cons_zero, List.setIfInBounds_toArray, List.set_cons_zero, List.set_cons_succ]
      refine wpAnyH_take (i := 10) (v := ?_) rfl (by kernel_rfl) (by kernel_rfl) (by kernel_rfl) (fun _ _ _ h => h) (Or.inl ⟨by rfl, ?_⟩) hT3 ?_
      rotate_left
      · (intro W hSw; (try dsimp only at hSw); go_simp; try (with_reducible rfl))
      try simp only [Act.put, List.getElem_toArray, List.getElem_cons_succ, List.getElem_cons_zero, List.setIfInBounds_toArray, List.set_cons_zero, List.set_cons_succ]
      refine wpAnyH_take (i := 11) (v := ?_) rfl (by kernel_rfl) (by kernel_rfl) (by kernel_rfl) (fun _ _ _ h => h) (Or.inl ⟨by rfl, ?_⟩) hT3 ?_
      rotate_left
      · (intro W hSw; (try dsimp only at hSw); go_simp; try (with_reducible rfl))
      try simp only [Act.put, List.getElem_toArray, List.getElem_cons_succ, List.getElem_cons_zero, List.setIfInBounds_toArray, List.set_cons_zero, List.set_cons_succ]
      refine wpAnyH_take (i := 12) (v := ?_) rfl (by kernel_rfl) (by kernel_rfl) (by kernel_rfl) (fun _ _ _ h => h) (Or.inl ⟨by rfl, ?_⟩) hT3 ?_
      rotate_left
      · (intro W hSw; (try dsimp only at hSw); go_simp; try (with_reducible rfl))
      try simp only [Act.put, List.getElem_toArray, List.getElem_cons_succ, List.getElem_cons_zero, List.setIfInBounds_toArray, List.set_cons_zero, List.set_cons_succ]
      refine wpAnyH_ready (rs := [13]) (by kernel_rfl) (by simp) ?_
      refine AllReadyH.cons rfl (fun K hK => ?_) AllReadyH.nil
      go_simp
      refine (H5.out _ hT3.1).mono ?_
      rintro e w7 ⟨rfl, hb7⟩
      try go_wp2_with fail
      refine hK.out _ _ (HALL.out _ (hT3.1.tr hb7)) (fun hT4 => ?_)
      clear hK K
      try simp only [Act.put, List.getElem_toArray, List.getElem_cons_succ, List.getElem_cons_zero, List.setIfInBounds_toArray, List.set_cons_zero, List.set_cons_succ]
      refine wpAnyH_take (i := 14) (v := ?_) rfl (by kernel_rfl) (by kernel_rfl) (by kernel_rfl) (fun _ _ _ h => h) (Or.inl ⟨by rfl, ?_⟩) hT4 ?_
      rotate_left
      · (intro W hSw; (try dsimp only at hSw); go_simp; try (with_reducible rfl))
      try simp only [Act.put, List.getElem_toArray, List.getElem_cons_succ, List.getElem_cons_zero, List.setIfInBounds_toArray, List.set_cons_zero, List.set_cons_succ]
      refine wpAnyH_take (i := 15) (v := ?_) rfl (by kernel_rfl) (by kernel_rfl) (by kernel_rfl) (fun _ _ _ h => h) (Or.inl ⟨by rfl, ?_⟩) hT4 ?_
      rotate_left
      · (intro W hSw; (try dsimp only at hSw); go_simp; try (with_reducible rfl))
      try simp only [Act.put, List.getElem_toArray, List.getElem_cons_succ, List.getElem_cons_zero, List.setIfInBounds_toArray, List.set_cons_zero, List.set_cons_succ]
      refine wpAnyH_take (i := 16) (v := ?_) rfl (by kernel_rfl) (by kernel_rfl) (by kernel_rfl) (fun _ _ _ h => h) (Or.inl ⟨by rfl, ?_⟩) hT4 ?_
      rotate_left
      · (intro W hSw; (try dsimp only at hSw); go_simp; try (with_reducible rfl))
      try simp only [Act.put, List.getElem_toArray, List.getElem_cons_succ, List.getElem_cons_zero, List.setIfInBounds_toArray, List.set_cons_zero, List.set_cons_succ]
      refine wpAnyH_take (i := 17) (v := ?_) rfl (by kernel_rfl) (by kernel_rfl) (by kernel_rfl) (fun _ _ _ h => h) (Or.inl ⟨by rfl, ?_⟩) hT4 ?_
      rotate_left
      · (intro W hSw; (try dsimp only at hSw); go_simp; try (with_reducible rfl))
      try simp only [Act.put, List.getElem_toArray, List.getElem_cons_succ, List.getElem_cons_zero, List.setIfInBounds_toArray, List.set_cons_zero, List.set_cons_succ]
      refine wpAnyH_take (i := 18) (v := ?_) rfl (by kernel_rfl) (by kernel_rfl) (by kernel_rfl) (fun _ _ _ h => h) (Or.inl ⟨by rfl, ?_⟩) hT4 ?_
      rotate_left
      · (intro W hSw; (try dsimp only at hSw); go_simp; try (with_reducible rfl))
      try simp only [Act.put, List.getElem_toArray, List.getElem_cons_succ, List.getElem_cons_zero, List.setIfInBounds_toArray, List.set_cons_zero, List.set_cons_succ]
      refine wpAnyH_take (i := 19) (v := ?_) rfl (by kernel_rfl) (by kernel_rfl) (by kernel_rfl) (fun _ _ _ h => h) (Or.inl ⟨by rfl, ?_⟩) hT4 ?_
      rotate_left
      · (intro W hSw; (try dsimp only at hSw); go_simp; try (with_reducible rfl))
      try simp only [Act.put, List.getElem_toArray, List.getElem_cons_succ, List.getElem_cons_zero, List.setIfInBounds_toArray, List.set_cons_zero, List.set_cons_succ]
      refine wpAnyH_ready (rs := [20]) (by kernel_rfl) (by simp) ?_
      refine AllReadyH.cons rfl (fun K hK => ?_) AllReadyH.nil
      go_simp
      refine (H6.out _ hT4.1).mono ?_
      rintro e w8 ⟨rfl, hb8⟩
      try go_wp2_with fail
      refine hK.out _ _ (HALL.out _ (hT4.1.tr hb8)) (fun hT5 => ?_)
      clear hK K
      try simp only [Act.put, List.getElem_toArray, List.getElem_cons_succ, List.getElem_cons_zero, List.setIfInBounds_toArray, List.set_cons_zero, List.set_cons_succ]
      refine wpAnyH_take (i := 21) (v := ?_) rfl (by kernel_rfl) (by kernel_rfl) (by kernel_rfl) (fun _ _ _ h => h) (Or.inl ⟨by rfl, ?_⟩) hT5 ?_
      rotate_left
      · (intro W hSw; (try dsimp only at hSw); go_simp; try (with_reducible rfl))
      try simp only [Act.put, List.getElem_toArray, List.getElem_cons_succ, List.getElem_cons_zero, List.setIfInBounds_toArray, List.set_cons_zero, List.set_cons_succ]
      refine wpAnyH_take (i := 22) (v := ?_) rfl (by kernel_rfl) (by kernel_rfl) (by kernel_rfl) (fun _ _ _ h => h) (Or.inl ⟨by rfl, ?_⟩) hT5 ?_
      rotate_left
      · (intro W hSw; (try dsimp only at hSw); go_simp; try (with_reducible rfl))
      try simp only [Act.put, List.getElem_toArray, List.getElem_cons_succ, List.getElem_cons_zero, List.setIfInBounds_toArray, List.set_cons_zero, List.set_cons_succ]
      refine wpAnyH_take (i := 23) (v := ?_) rfl (by kernel_rfl) (by kernel_rfl) (by kernel_rfl) (fun _ _ _ h => h) (Or.inl ⟨by rfl, ?_⟩) hT5 ?_
      rotate_left
      · (intro W hSw; (try dsimp only at hSw); go_simp; try (with_reducible rfl))
      try simp only [Act.put, List.getElem_toArray, List.getElem_cons_succ, List.getElem_cons_zero, List.setIfInBounds_toArray, List.set_cons_zero, List.set_cons_succ]
      refine wpAnyH_take (i := 24) (v := ?_) rfl (by kernel_rfl) (by kernel_rfl) (by kernel_rfl) (fun _ _ _ h => h) (Or.inl ⟨by rfl, ?_⟩) hT5 ?_
      rotate_left
      · (intro W hSw; (try dsimp only at hSw); go_simp; try (with_reducible rfl))
      try simp only [Act.put, List.getElem_toArray, List.getElem_cons_succ, List.getElem_cons_zero, List.setIfInBounds_toArray, List.set_cons_zero, List.set_cons_succ]
      refine wpAnyH_take (i := 25) (v := ?_) rfl (by kernel_rfl) (by kernel_rfl) (by kernel_rfl) (fun _ _ _ h => h) (Or.inl ⟨by rfl, ?_⟩) hT5 ?_
      rotate_left
      · (intro W hSw; (try dsimp only at hSw); go_simp; try (with_reducible rfl))
      try simp only [Act.put, List.getElem_toArray, List.getElem_cons_succ, List.getElem_cons_zero, List.setIfInBounds_toArray, List.set_cons_zero, List.set_cons_succ]
      refine wpAnyH_take (i := 26) (v := ?_) rfl (by kernel_rfl) (by kernel_rfl) (by kernel_rfl) (fun _ _ _ h => h) (Or.inl ⟨by rfl, ?_⟩) hT5 ?_
      rotate_left
      · (intro W hSw; (try dsimp only at hSw); go_simp; try (with_reducible rfl))
      try simp only [Act.put, List.getElem_toArray, List.getElem_cons_succ, List.getElem_cons_zero, List.setIfInBounds_toArray, List.set_cons_zero, List.set_cons_succ]
      refine wpAnyH_take (i := 27) (v := ?_) rfl (by kernel_rfl) (by kernel_rfl) (by kernel_rfl) (fun _ _ _ h => h) (Or.inl ⟨by rfl, ?_⟩) hT5 ?_
      rotate_left
      · (intro W hSw; (try dsimp only at hSw); go_simp; try (with_reducible rfl))
      try simp only [Act.put, List.getElem_toArray, List.getElem_cons_succ, List.getElem_cons_zero, List.setIfInBounds_toArray, List.set_cons_zero, List.set_cons_succ]
      refine wpAnyH_ready (rs := [28]) (by kernel_rfl) (by simp) ?_
      refine AllReadyH.cons rfl (fun K hK => ?_) AllReadyH.nil
      go_simp
      refine (H7.out _ hT5.1).mono ?_
      rintro e w9 ⟨rfl, hb9⟩
      try go_wp2_with fail
      refine hK.out _ _ (HALL.out _ (hT5.1.tr hb9)) (fun hT6 => ?_)
      clear hK K
      try simp only [Act.put, List.getElem_toArray, List.getElem_cons_succ, List.getElem_cons_zero, List.setIfInBounds_toArray, List.set_cons_zero, List.set_cons_succ]
      refine wpAnyH_take (i := 29) (v := ?_) rfl (by kernel_rfl) (by kernel_rfl) (by kernel_rfl) (fun _ _ _ h => h) (Or.inl ⟨by rfl, ?_⟩) hT6 ?_
      rotate_left
      · (intro W hSw; (try dsimp only at hSw); go_simp; try (with_reducible rfl))
      try simp only [Act.put, List.getElem_toArray, List.getElem_cons_succ, List.getElem_cons_zero, List.setIfInBounds_toArray, List.set_cons_zero, List.set_cons_succ]
      refine wpAnyH_take (i := 30) (v := ?_) rfl (by kernel_rfl) (by kernel_rfl) (by kernel_rfl) (fun _ _ _ h => h) (Or.inl ⟨by rfl, ?_⟩) hT6 ?_
      rotate_left
      · (intro W hSw; (try dsimp only at hSw); go_simp; try (with_reducible rfl))
      try simp only [Act.put, List.getElem_toArray, List.getElem_cons_succ, List.getElem_cons_zero, List.setIfInBounds_toArray, List.set_cons_zero, List.set_cons_succ]
      refine wpAnyH_take (i := 31) (v := ?_) rfl (by kernel_rfl) (by kernel_rfl) (by kernel_rfl) (fun _ _ _ h => h) (Or.inl ⟨by rfl, ?_⟩) hT6 ?_
      rotate_left
      · (intro W hSw; (try dsimp only at hSw); go_simp; try (with_reducible rfl))
      try simp only [Act.put, List.getElem_toArray, List.getElem_cons_succ, List.getElem_cons_zero, List.setIfInBounds_toArray, List.set_cons_zero, List.set_cons_succ]
      refine wpAnyH_done (by kernel_rfl) ?_ _
      go_wp2
      go_ret
      exact ⟨rfl, hg.tr hT6.1⟩
    · have hCe : C = noCmp := by
        rw [HC.out]
        by_cases h : okFil f = true
        · exact fCompile_mode (fun q => hF ⟨h, q.1, q.2⟩)
        · exact fCompile_bad ((Bool.not_eq_true _).mp h)
      have hne : C.mod.toList.isEmpty = true := by rw [hRe, hCe, noCmp_mod]; rfl
      clear hCe hF hRe
      go_wp2
      refine wp_region_held_drew (S := (fun W => Gr (w2.alloc (.cells #[.int .i64 C.root, .string C.mod, .bool C.init, .int .i64 C.mode, .int .i64 C.stamp, .int .i64 C.size, .int .i64 C.hash, .slice ca C.body.length cc] 54)) W ∧ (W.cell? ⟨w1.heap.size, 0, none⟩ = some (.int .i64 f.root) ∧ W.cell? ⟨w1.heap.size, 1, none⟩ = some (.string f.pkg) ∧ W.cell? ⟨w1.heap.size, 2, none⟩ = some (.string f.name) ∧ W.cell? ⟨w1.heap.size, 3, none⟩ = some (.bool f.init) ∧ W.cell? ⟨w1.heap.size, 4, none⟩ = some (.int .i64 f.stamp) ∧ W.cell? ⟨w1.heap.size, 5, none⟩ = some (.slice ua f.body.length uc)) ∧ (W.cell? ⟨w2.heap.size, 0, none⟩ = some (.int .i64 C.root) ∧ W.cell? ⟨w2.heap.size, 1, none⟩ = some (.string C.mod) ∧ W.cell? ⟨w2.heap.size, 2, none⟩ = some (.bool C.init) ∧ W.cell? ⟨w2.heap.size, 3, none⟩ = some (.int .i64 C.mode) ∧ W.cell? ⟨w2.heap.size, 4, none⟩ = some (.int .i64 C.stamp) ∧ W.cell? ⟨w2.heap.size, 5, none⟩ = some (.int .i64 C.size) ∧ W.cell? ⟨w2.heap.size, 6, none⟩ = some (.int .i64 C.hash) ∧ W.cell? ⟨w2.heap.size, 7, none⟩ = some (.slice ca C.body.length cc)))) (by kernel_rfl) (HALL.out _ (below_drewN (Gr.rfl' _) 1)) (fun hS0 => ?_)
      refine wpAnyH_take (i := 0) (v := ?_) rfl (by kernel_rfl) (by kernel_rfl) (by kernel_rfl) (fun _ _ _ h => h) (Or.inl ⟨by rfl, ?_⟩) hS0 ?_
      rotate_left
      · (intro W hSw; (try dsimp only at hSw); go_simp; try (with_reducible rfl))
      try simp only [Act.put, List.getElem_toArray, List.getElem_cons_succ, List.getElem_cons_zero, List.setIfInBounds_toArray, List.set_cons_zero, List.set_cons_succ]
      refine wpAnyH_take (i := 1) (v := ?_) rfl (by kernel_rfl) (by kernel_rfl) (by kernel_rfl) (fun _ _ _ h => h) (Or.inl ⟨by rfl, ?_⟩) hS0 ?_
      rotate_left
      · (intro W hSw; (try dsimp only at hSw); go_simp; try (with_reducible rfl))
      try simp only [Act.put, List.getElem_toArray, List.getElem_cons_succ, List.getElem_cons_zero, List.setIfInBounds_toArray, List.set_cons_zero, List.set_cons_succ]
      refine wpAnyH_take (i := 2) (v := ?_) rfl (by kernel_rfl) (by kernel_rfl) (by kernel_rfl) (fun _ _ _ h => h) (Or.inl ⟨by rfl, ?_⟩) hS0 ?_
      rotate_left
      · (intro W hSw; (try dsimp only at hSw); go_simp; try (with_reducible rfl))
      try simp only [Act.put, List.getElem_toArray, List.getElem_cons_succ, List.getElem_cons_zero, List.setIfInBounds_toArray, List.set_cons_zero, List.set_cons_succ]
      refine wpAnyH_ready (rs := [3]) (by kernel_rfl) (by simp) ?_
      refine AllReadyH.cons rfl (fun K hK => ?_) AllReadyH.nil
      go_simp
      refine (H1.out _ (hgC1.tr hS0.1)).mono ?_
      rintro e w3 ⟨u3, rfl, ho3, hb3⟩
      try go_wp2_with fail
      refine hK.out _ _ (HALL.out _ (hS0.1.tr hb3)) (fun hS1 => ?_)
      clear hK K
      try simp only [Act.put, List.getElem_toArray, List.getElem_cons_succ, List.getElem_cons_zero, List.setIfInBounds_toArray, List.set_cons_zero, List.set_cons_succ]
      refine wpAnyH_ready (rs := [4]) (by kernel_rfl) (by simp) ?_
      refine AllReadyH.cons rfl (fun K hK => ?_) AllReadyH.nil
      go_simp
      refine (equalCompiled_any C _ u3 _ (HRC.out _ hS1.1) (ho3.reads (fun _ _ => rfl)) (HSC.out _ hS1.1) (Nat.le_refl _)).mono ?_
      rintro e w4 ⟨rfl, hb4⟩
      try go_wp2_with fail
      refine hK.out _ _ (HALL.out _ (hS1.1.tr hb4)) (fun hS2 => ?_)
      clear hK K
      try simp only [Act.put, List.getElem_toArray, List.getElem_cons_succ, List.getElem_cons_zero, List.setIfInBounds_toArray, List.set_cons_zero, List.set_cons_succ]
      refine wpAnyH_take (i := 5) (v := ?_) rfl (by kernel_rfl) (by kernel_rfl) (by kernel_rfl) (fun _ _ _ h => h) (Or.inl ⟨by rfl, ?_⟩) hS2 ?_
      rotate_left
      · (intro W hSw; (try dsimp only at hSw); go_simp; try (with_reducible rfl))
      try simp only [Act.put, List.getElem_toArray, List.getElem_cons_succ, List.getElem_cons_zero, List.setIfInBounds_toArray, List.set_cons_zero, List.set_cons_succ]
      refine wpAnyH_take (i := 6) (v := ?_) rfl (by kernel_rfl) (by kernel_rfl) (by kernel_rfl) (fun _ _ _ h => h) (Or.inl ⟨by rfl, ?_⟩) hS2 ?_
      rotate_left
      · (intro W hSw; (try dsimp only at hSw); go_simp; try (with_reducible rfl))
      try simp only [Act.put, List.getElem_toArray, List.getElem_cons_succ, List.getElem_cons_zero, List.setIfInBounds_toArray, List.set_cons_zero, List.set_cons_succ]
      refine wpAnyH_take (i := 7) (v := ?_) rfl (by kernel_rfl) (by kernel_rfl) (by kernel_rfl) (fun _ _ _ h => h) (Or.inl ⟨by rfl, ?_⟩) hS2 ?_
      rotate_left
      · (intro W hSw; (try dsimp only at hSw); go_simp; try (with_reducible rfl))
      try simp only [Act.put, List.getElem_toArray, List.getElem_cons_succ, List.getElem_cons_zero, List.setIfInBounds_toArray, List.set_cons_zero, List.set_cons_succ]
      refine wpAnyH_take (i := 8) (v := ?_) rfl (by kernel_rfl) (by kernel_rfl) (by kernel_rfl) (fun _ _ _ h => h) (Or.inl ⟨by rfl, ?_⟩) hS2 ?_
      rotate_left
      · (intro W hSw; (try dsimp only at hSw); go_simp; try (with_reducible rfl))
      try simp only [Act.put, List.getElem_toArray, List.getElem_cons_succ, List.getElem_cons_zero, List.setIfInBounds_toArray, List.set_cons_zero, List.set_cons_succ]
      refine wpAnyH_take (i := 9) (v := ?_) rfl (by kernel_rfl) (by kernel_rfl) (by kernel_rfl) (fun _ _ _ h => h) (Or.inl ⟨by rfl, ?_⟩) hS2 ?_
      rotate_left
      · (intro W hSw; (try dsimp only at hSw); go_simp; try (with_reducible rfl))
      try simp only [Act.put, List.getElem_toArray, List.getElem_cons_succ, List.getElem_cons_zero, List.setIfInBounds_toArray, List.set_cons_zero, List.set_cons_succ]
      refine wpAnyH_take (i := 10) (v := ?_) rfl (by kernel_rfl) (by kernel_rfl) (by kernel_rfl) (fun _ _ _ h => h) (Or.inl ⟨by rfl, ?_⟩) hS2 ?_
      rotate_left
      · (intro W hSw; (try dsimp only at hSw); go_simp; try (with_reducible rfl))
      try simp only [Act.put, List.getElem_toArray, List.getElem_cons_succ, List.getElem_cons_zero, List.setIfInBounds_toArray, List.set_cons_zero, List.set_cons_succ]
      refine wpAnyH_done (by kernel_rfl) ?_ _
      go_wp2
      refine wp_region_held_drew (S := (fun W => Gr (w2.alloc (.cells #[.int .i64 C.root, .string C.mod, .bool C.init, .int .i64 C.mode, .int .i64 C.stamp, .int .i64 C.size, .int .i64 C.hash, .slice ca C.body.length cc] 54)) W ∧ (W.cell? ⟨w1.heap.size, 0, none⟩ = some (.int .i64 f.root) ∧ W.cell? ⟨w1.heap.size, 1, none⟩ = some (.string f.pkg) ∧ W.cell? ⟨w1.heap.size, 2, none⟩ = some (.string f.name) ∧ W.cell? ⟨w1.heap.size, 3, none⟩ = some (.bool f.init) ∧ W.cell? ⟨w1.heap.size, 4, none⟩ = some (.int .i64 f.stamp) ∧ W.cell? ⟨w1.heap.size, 5, none⟩ = some (.slice ua f.body.length uc)) ∧ (W.cell? ⟨w2.heap.size, 0, none⟩ = some (.int .i64 C.root) ∧ W.cell? ⟨w2.heap.size, 1, none⟩ = some (.string C.mod) ∧ W.cell? ⟨w2.heap.size, 2, none⟩ = some (.bool C.init) ∧ W.cell? ⟨w2.heap.size, 3, none⟩ = some (.int .i64 C.mode) ∧ W.cell? ⟨w2.heap.size, 4, none⟩ = some (.int .i64 C.stamp) ∧ W.cell? ⟨w2.heap.size, 5, none⟩ = some (.int .i64 C.size) ∧ W.cell? ⟨w2.heap.size, 6, none⟩ = some (.int .i64 C.hash) ∧ W.cell? ⟨w2.heap.size, 7, none⟩ = some (.slice ca C.body.length cc)))) (by kernel_rfl) (HALL.out _ (below_drewN hS2.1 1)) (fun hT0 => ?_)
      refine wpAnyH_take (i := 0) (v := ?_) rfl (by kernel_rfl) (by kernel_rfl) (by kernel_rfl) (fun _ _ _ h => h) (Or.inl ⟨by rfl, ?_⟩) hT0 ?_
      rotate_left
      · (intro W hSw; (try dsimp only at hSw); go_simp; try (with_reducible rfl))
      try simp only [Act.put, List.getElem_toArray, List.getElem_cons_succ, List.getElem_cons_zero, List.setIfInBounds_toArray, List.set_cons_zero, List.set_cons_succ]
      refine wpAnyH_take (i := 1) (v := ?_) rfl (by kernel_rfl) (by kernel_rfl) (by kernel_rfl) (fun _ _ _ h => h) (Or.inl ⟨by rfl, ?_⟩) hT0 ?_
      rotate_left
      · (intro W hSw; (try dsimp only at hSw); go_simp; try (with_reducible rfl))
      try simp only [Act.put, List.getElem_toArray, List.getElem_cons_succ, List.getElem_cons_zero, List.setIfInBounds_toArray, List.set_cons_zero, List.set_cons_succ]
      refine wpAnyH_take (i := 2) (v := ?_) rfl (by kernel_rfl) (by kernel_rfl) (by kernel_rfl) (fun _ _ _ h => h) (Or.inl ⟨by rfl, ?_⟩) hT0 ?_
      rotate_left
      · (intro W hSw; (try dsimp only at hSw); go_simp; try (with_reducible rfl))
      try simp only [Act.put, List.getElem_toArray, List.getElem_cons_succ, List.getElem_cons_zero, List.setIfInBounds_toArray, List.set_cons_zero, List.set_cons_succ]
      refine wpAnyH_ready (rs := [3]) (by kernel_rfl) (by simp) ?_
      refine AllReadyH.cons rfl (fun K hK => ?_) AllReadyH.nil
      go_simp
      refine (H1.out _ (hgC1.tr hT0.1)).mono ?_
      rintro e w5 ⟨u5, rfl, ho5, hb5⟩
      try go_wp2_with fail
      refine hK.out _ _ (HALL.out _ (hT0.1.tr hb5)) (fun hT1 => ?_)
      clear hK K
      try simp only [Act.put, List.getElem_toArray, List.getElem_cons_succ, List.getElem_cons_zero, List.setIfInBounds_toArray, List.set_cons_zero, List.set_cons_succ]
      refine wpAnyH_ready (rs := [4]) (by kernel_rfl) (by simp) ?_
      refine AllReadyH.cons rfl (fun K hK => ?_) AllReadyH.nil
      go_simp
      refine (equalCompiled_any C _ u5 _ (HRC.out _ hT1.1) (ho5.reads (fun _ _ => rfl)) (HSC.out _ hT1.1) (Nat.le_refl _)).mono ?_
      rintro e w6 ⟨rfl, hb6⟩
      try go_wp2_with fail
      refine hK.out _ _ (HALL.out _ (hT1.1.tr hb6)) (fun hT2 => ?_)
      clear hK K
      try simp only [Act.put, List.getElem_toArray, List.getElem_cons_succ, List.getElem_cons_zero, List.setIfInBounds_toArray, List.set_cons_zero, List.set_cons_succ]
      refine wpAnyH_take (i := 5) (v := ?_) rfl (by kernel_rfl) (by kernel_rfl) (by kernel_rfl) (fun _ _ _ h => h) (Or.inl ⟨by rfl, ?_⟩) hT2 ?_
      rotate_left
      · (intro W hSw; (try dsimp only at hSw); go_simp; try (with_reducible rfl))
      try simp only [Act.put, List.getElem_toArray, List.getElem_cons_succ, List.getElem_cons_zero, List.setIfInBounds_toArray, List.set_cons_zero, List.set_cons_succ]
      refine wpAnyH_done (by kernel_rfl) ?_ _
      go_wp2
      go_ret
      exact ⟨rfl, hg.tr hT2.1⟩
  · go_enter Tryd.func8, Tryd.ntmps8
    go_wp2
    go_ret
    exact ⟨rfl, Below.refl _ _⟩
end Go.Proofs.YteccopgnlbphbaaDoor
