/-
  Walks of the laws on stores of what is compiled, and on what is usable: both packages tell the same.
-/
import Derived.Test.YteccopgnlbphbaaDoorStoreZ
import Derived.Test.YteccopgnlbphbaaDoorUse
import Derived.Test.YteccopgnlbphbaaDoorOpen
namespace Imp
open Go Go.RowKit
theorem smC_of {L M : List CR} (h : ∀ r ∈ L, SmC r) (e : M.map (·.1) = L.map (·.1)) : ∀ r ∈ M, SmC r := by
  intro r hr
  have : r.1 ∈ L.map (·.1) := by rw [← e]; exact List.mem_map_of_mem hr
  rw [List.mem_map] at this
  obtain ⟨r', hr', e'⟩ := this
  have := h r' hr'
  unfold SmC at this ⊢
  rw [← e']; exact this
end Imp
namespace Go.Proofs.YteccopgnlbphbaaDoor
open Go Go.RowKit Go.ChangeShapes Go.WideShapes Go.ChangeAt Go.Deep Imp
set_option linter.unusedVariables false
set_option linter.unusedSimpArgs false
section
variable {H : Type} {enc : TypeId × Value → H} {W : World} {base : Nat} {v : Value} {d : DataW H} {p : List MemPlace}
set_option maxRecDepth 100000 in
theorem row_cmp {n : Nat} {cs : List Value} {y : DataW H × List MemPlace} {base : Nat} {spare : Nat → Bool} {held : Bool} (h : DataW.trod enc Tryd.prog W base spare held n 46 cs = some y) : ∃ z : CR, cs = eCp z ∧ (okC z.1 ∧ CmR W 0 W.heap.size z) := by
  obtain ⟨xs, n', _, _, hl, hxs, hf⟩ := DataW.trod_struct Tryd.underlying46 h
  have hl8 : cs.length = 8 := hl.trans (by kernel_rfl)
  obtain ⟨a, ha, qa⟩ := field_int (by kernel_rfl) Tryd.underlying3 (some_at hxs (by decide)) (hf 0 _ rfl)
  obtain ⟨b, hb, qb⟩ := field_string (by kernel_rfl) Tryd.underlying9 (some_at hxs (by decide)) (hf 1 _ rfl)
  obtain ⟨c, hc⟩ := field_bool (by kernel_rfl) Tryd.underlying4 (some_at hxs (by decide)) (hf 2 _ rfl)
  obtain ⟨d, hd, qd⟩ := field_int (by kernel_rfl) Tryd.underlying3 (some_at hxs (by decide)) (hf 3 _ rfl)
  obtain ⟨e, he, qe⟩ := field_int (by kernel_rfl) Tryd.underlying3 (some_at hxs (by decide)) (hf 4 _ rfl)
  obtain ⟨f, hff, qf⟩ := field_int (by kernel_rfl) Tryd.underlying3 (some_at hxs (by decide)) (hf 5 _ rfl)
  obtain ⟨g, hg, qg⟩ := field_int (by kernel_rfl) Tryd.underlying3 (some_at hxs (by decide)) (hf 6 _ rfl)
  obtain ⟨u, hu, L, hL, qL⟩ := field_rows (k := 5) eSt okSt (by kernel_rfl) Tryd.underlying44 (by kernel_rfl) (by decide) (fun n cs' y hy => row_stmt hy) (some_at hxs (by decide)) (hf 7 _ rfl)
  refine ⟨(⟨a, b, c, d, e, f, g, L⟩, u), ?_, ⟨qa, qb, qd, qe, qf, qg, qL⟩, hL⟩
  match cs, hl8 with
  | [x0, x1, x2, x3, x4, x5, x6, x7], _ =>
    have ha : x0 = _ := Option.some.inj ha
    have hb : x1 = _ := Option.some.inj hb
    have hc : x2 = _ := Option.some.inj hc
    have hd : x3 = _ := Option.some.inj hd
    have he : x4 = _ := Option.some.inj he
    have hff : x5 = _ := Option.some.inj hff
    have hg : x6 = _ := Option.some.inj hg
    have hu : x7 = _ := Option.some.inj hu
    rw [ha, hb, hc, hd, he, hff, hg, hu]; rfl
set_option maxRecDepth 100000 in
theorem open_arg_compiled (hv : Value.okWide Tryd.prog W .any base 46 v) (h : DataW.Trod enc Tryd.prog W 0 (fun _ => true) true 46 v d p) (_hs : (DataW.weights Tryd.prog 46 d).all (fun x => decide (x ≤ reachBytes)) = true) :
    ∃ r : CR, v = vC r ∧ okC r.1 ∧ CmR W 0 W.heap.size r := by
  obtain ⟨cs, rfl, _⟩ := okWide_struct Tryd.underlying46 hv
  obtain ⟨fuel, hf⟩ := h
  obtain ⟨z, e, h1, h2⟩ := row_cmp hf
  have e' : cs.toList = eCp z := by simpa [Value.cells] using e
  have : cs = (eCp z).toArray := by rw [← e']
  exact ⟨z, by rw [this]; rfl, h1, h2⟩
set_option maxRecDepth 100000 in
theorem open_arg_store (hv : Value.okWide Tryd.prog W .any base 34 v) (h : DataW.Trod enc Tryd.prog W 0 (fun _ => true) true 34 v d p) (_hs : (DataW.weights Tryd.prog 34 d).all (fun x => decide (x ≤ reachBytes)) = true) :
    ∃ L : List CR, StR W 0 W.heap.size v L ∧ ∀ r ∈ L, okC r.1 := by
  obtain ⟨a0, len0, cap0, rfl⟩ := okWide_slice Tryd.underlying34 hv
  obtain ⟨fuel, hf⟩ := h
  obtain ⟨v, e, L, h1, h2⟩ := open_rows (P := Tryd.prog) (k := 8) eCp (fun z : CR => okC z.1 ∧ CmR W 0 W.heap.size z) Tryd.underlying34 (by kernel_rfl) (by decide) (fun n cs' y hy => row_cmp hy) hf
  rw [cells_slice] at e
  injection e with e
  subst e
  exact ⟨L, ⟨h1, fun r hr => (h2 r hr).2⟩, fun r hr => (h2 r hr).1⟩
end
theorem walk_FnExactValidStore (w : World) (hok : OkW w) (v : Value) (L : List CR) (hL : StR w 0 w.heap.size v L ∧ ∀ r ∈ L, okC r.1) :
    Calls Tryd.prog 4 #[v] w fun e w' => e = .returned (.bool true) ∧ Below w.heap.size w w' := by
  obtain ⟨hfl, hsz⟩ := hL
  obtain ⟨ua, uc, rfl, _, _⟩ := hfl.1.form
  have hbW := fun W (h : Gr w W) => hfl.below h (Nat.le_refl _)
  have HB := Lib.hid hbW
  have hgr := Gr.rfl' w
  clear hfl hbW
  go_enter Tryd.func4, Tryd.ntmps4
  go_wp2_with fail
  refine (szCompiledS_any _ L _ _ (HB.out _ hgr) (Nat.le_refl _) hsz (by omega) (by omega)).mono ?_
  rintro e w1 ⟨q, rfl, hq, hql, hg1⟩
  by_cases h0 : q < 0
  · go_wp2
    go_ret
    exact ⟨rfl, hg1⟩
  · have htot := hq (by omega)
    have hlen : L.length ≤ 1048576 := by omega
    have hszF : ∀ r ∈ L, szC r.1 ≤ 1048576 := fun r hr => by have := totC_mem hr; omega
    have hbn : ∀ r ∈ L, r.1.body.length ≤ 1048576 := fun r hr => by have := hszF r hr; unfold szC at this; omega
    have hsmL : ∀ r ∈ L, SmC r := fun r hr => by
      have := hszF r hr
      unfold szC at this
      exact ⟨by omega, by omega, by omega⟩
    have h1 := fun lo hi vv (M : List CR) W k h (e : M.map (·.1) = L.map (·.1)) h' => sValidStore_any (lo := lo) (hi := hi) vv M W k h h' (smC_of hsmL e)
    have h2 := fun lo hi vv (M : List CR) W k h (e : M.map (·.1) = L.map (·.1)) h' => iValidStore_any (lo := lo) (hi := hi) vv M W k h h' (smC_of hsmL e)
    have h3 := fun W (h : Gr w W) => toCompiledS_own _ L W (HB.out _ h) h.size hlen hbn
    obtain ⟨R, hR⟩ : ∃ R, R = okStore (L.map (·.1)) := ⟨_, rfl⟩
    have h1' : ∀ lo hi vv (M : List CR) W, OkW W → StR W lo hi vv M → M.map (·.1) = L.map (·.1) → hi ≤ W.heap.size → Calls Tryd.prog 17 #[vv] W fun e w' => e = .returned (.bool R) ∧ Gr W w' := by
      intro lo hi vv M W k h e h'
      have := h1 lo hi vv M W k h e h'
      rwa [e, ← hR] at this
    have h2' : ∀ lo hi vv (M : List CR) W, OkW W → StR W lo hi vv M → M.map (·.1) = L.map (·.1) → hi ≤ W.heap.size → Calls Tryd.prog 19 #[vv] W fun e w' => e = .returned (.bool R) ∧ Gr W w' := by
      intro lo hi vv M W k h e h'
      have := h2 lo hi vv M W k h e h'
      rwa [e, ← hR] at this
    have q2 : (R != R) = false := by simp
    have H1 := Lib.hid h1'
    have H2 := Lib.hid h2'
    have H3 := Lib.hid h3
    clear hq hql htot hR h1 h2 h3 h1' h2' hsz hszF hbn hsmL
    go_wp2_with fail
    refine (H3.out _ hg1).mono ?_
    rintro e w2 ⟨u2, rfl, M2, hM2, ho2, hb2⟩
    have hg2 := hg1.tr hb2
    obtain ⟨a2, k2, e2, _, _⟩ := ho2.1.form
    subst e2
    go_wp2_with fail
    refine (H1.out _ _ _ M2 _ (hok.gr hg2) ho2 hM2 (Nat.le_refl _)).mono ?_
    rintro e w3 ⟨rfl, hb3⟩
    have hg3 := hg2.tr hb3
    go_wp2_with fail
    refine (H3.out _ hg3).mono ?_
    rintro e w4 ⟨u4, rfl, M4, hM4, ho4, hb4⟩
    have hg4 := hg3.tr hb4
    obtain ⟨a4, k4, e4, _, _⟩ := ho4.1.form
    subst e4
    go_wp2_with fail
    refine (H2.out _ _ _ M4 _ (hok.gr hg4) ho4 hM4 (Nat.le_refl _)).mono ?_
    rintro e w5 ⟨rfl, hb5⟩
    have hg5 := hg4.tr hb5
    go_wp2_with fail
    refine (H3.out _ hg5).mono ?_
    rintro e w6 ⟨u6, rfl, M6, hM6, ho6, hb6⟩
    have hg6 := hg5.tr hb6
    obtain ⟨a6, k6, e6, _, _⟩ := ho6.1.form
    subst e6
    go_wp2_with fail
    refine (eqCompiledS_any _ _ M4 M6 _ (ho4.below (hb5.tr hb6) (Nat.le_refl _)) ho6 (hM4.trans hM6.symm) (hb5.tr hb6).size (Nat.le_refl _)).mono ?_
    rintro e w7 ⟨rfl, hb7⟩
    go_wp2
    go_ret
    exact ⟨rfl, hg6.tr hb7⟩
set_option maxHeartbeats 3200000 in
theorem walk_FnExactIsUsable (w : World) (hok : OkW w) (v : Value) (rc : CR) (hC : v = vC rc ∧ okC rc.1 ∧ CmR w 0 w.heap.size rc) (v2 : Value) (r : FR) (hL : v2 = vF r ∧ okF r.1 ∧ BodyR w 0 w.heap.size r) :
    Calls Tryd.prog 6 #[v, v2] w fun e w' => e = .returned (.bool true) ∧ Below w.heap.size w w' := by
  obtain ⟨rfl, hszc, hbc⟩ := hC
  obtain ⟨rfl, hsz, hb⟩ := hL
  obtain ⟨c, cv⟩ := rc
  obtain ⟨f, fv⟩ := r
  have hA1 := heap_alloc_new w (.cells #[.int .i64 c.root, .string c.mod, .bool c.init, .int .i64 c.mode, .int .i64 c.stamp, .int .i64 c.size, .int .i64 c.hash, cv] 46)
  have hA := (Below.heap_alloc (w.alloc (.cells #[.int .i64 c.root, .string c.mod, .bool c.init, .int .i64 c.mode, .int .i64 c.stamp, .int .i64 c.size, .int .i64 c.hash, cv] 46)) (.cells #[.int .i64 f.root, .string f.pkg, .string f.name, .bool f.init, .int .i64 f.stamp, fv] 48) w.heap.size (by simp)).trans hA1
  have hB := heap_alloc2_new w (.cells #[.int .i64 c.root, .string c.mod, .bool c.init, .int .i64 c.mode, .int .i64 c.stamp, .int .i64 c.size, .int .i64 c.hash, cv] 46) (.cells #[.int .i64 f.root, .string f.pkg, .string f.name, .bool f.init, .int .i64 f.stamp, fv] 48)
  have hg0 := gr_al2 w (.cells #[.int .i64 c.root, .string c.mod, .bool c.init, .int .i64 c.mode, .int .i64 c.stamp, .int .i64 c.size, .int .i64 c.hash, cv] 46) (.cells #[.int .i64 f.root, .string f.pkg, .string f.name, .bool f.init, .int .i64 f.stamp, fv] 48)
  have hbC := fun W (h : Gr w W) => SlR.below hbc h (Nat.le_refl _)
  have hbF := fun W (h : Gr w W) => SlR.below hb h (Nat.le_refl _)
  have hargs : ∀ W, Gr ((w.alloc (.cells #[.int .i64 c.root, .string c.mod, .bool c.init, .int .i64 c.mode, .int .i64 c.stamp, .int .i64 c.size, .int .i64 c.hash, cv] 46)).alloc (.cells #[.int .i64 f.root, .string f.pkg, .string f.name, .bool f.init, .int .i64 f.stamp, fv] 48)) W →
      (W.cell? ⟨w.heap.size, 0, none⟩ = some (.int .i64 c.root) ∧ W.cell? ⟨w.heap.size, 1, none⟩ = some (.string c.mod) ∧ W.cell? ⟨w.heap.size, 2, none⟩ = some (.bool c.init) ∧ W.cell? ⟨w.heap.size, 3, none⟩ = some (.int .i64 c.mode) ∧ W.cell? ⟨w.heap.size, 4, none⟩ = some (.int .i64 c.stamp) ∧ W.cell? ⟨w.heap.size, 5, none⟩ = some (.int .i64 c.size) ∧ W.cell? ⟨w.heap.size, 6, none⟩ = some (.int .i64 c.hash) ∧ W.cell? ⟨w.heap.size, 7, none⟩ = some cv) ∧
      (W.cell? ⟨w.heap.size + 1, 0, none⟩ = some (.int .i64 f.root) ∧ W.cell? ⟨w.heap.size + 1, 1, none⟩ = some (.string f.pkg) ∧ W.cell? ⟨w.heap.size + 1, 2, none⟩ = some (.string f.name) ∧ W.cell? ⟨w.heap.size + 1, 3, none⟩ = some (.bool f.init) ∧ W.cell? ⟨w.heap.size + 1, 4, none⟩ = some (.int .i64 f.stamp) ∧ W.cell? ⟨w.heap.size + 1, 5, none⟩ = some fv) :=
    fun W h => ⟨(rows8 ((h.block w.heap.size (by simp <;> omega)).trans hA)).1, cells6 hB h⟩
  have HBC := Lib.hid hbC
  have HBF := Lib.hid hbF
  have HARG := Lib.hid hargs
  obtain ⟨⟨c0, c1, c2, c3, c4, c5, c6, c7⟩, f0, f1, f2, f3, f4, f5⟩ := hargs _ (Gr.rfl' _)
  clear hbc hb hbC hbF hargs hA1 hA hB
  go_enter Tryd.func6, Tryd.ntmps6
  go_wp2_with fail
  refine (szCompiled_any (c, cv) _ _ (HBC.out _ hg0) (by simp; omega) hszc (by omega) (by omega)).mono ?_
  rintro e w1 ⟨q, rfl, hq, hql, hB1⟩
  have hg1 := Gr.tr hg0 hB1
  obtain ⟨⟨c0, c1, c2, c3, c4, c5, c6, c7⟩, f0, f1, f2, f3, f4, f5⟩ := HARG.out _ hB1
  by_cases h0 : q < 0
  · go_wp2
    go_ret
    exact ⟨rfl, hg1⟩
  · have htot := hq (by omega)
    go_wp2_with fail
    refine (szFile_any (f, fv) _ _ (HBF.out _ hg1) hg1.size hsz (by omega) (by omega)).mono ?_
    rintro e w2 ⟨q2, rfl, hq2, hql2, hb2⟩
    have hB2 := Gr.tr hB1 hb2
    obtain ⟨⟨c0, c1, c2, c3, c4, c5, c6, c7⟩, f0, f1, f2, f3, f4, f5⟩ := HARG.out _ hB2
    by_cases h02 : q2 < 0
    · go_wp2
      go_ret
      exact ⟨rfl, hg1.tr hb2⟩
    · have htot2 := hq2 (by omega)
      unfold szC at htot
      unfold szF at htot2
      simp only at htot htot2
      have hlen : f.body.length ≤ 1048576 := by omega
      have hlenc : c.body.length ≤ 1048576 := by omega
      have hp : f.pkg.size ≤ 4194304 := by omega
      have hn : f.name.size ≤ 4194304 := by omega
      have h1 := fun u1 u2 lo hi lo' hi' W k h h' hh hh' => sIsUsable_any (lo := lo) (hi := hi) (lo' := lo') (hi' := hi') c f u1 u2 W k h h' ⟨by show c.mod.size ≤ _; omega, by show c.body.length ≤ _; omega, by show totB c.body ≤ _; omega⟩ hh hh' hp hn (by omega) (by omega)
      have h2 := fun u1 u2 lo hi lo' hi' W k h h' hh hh' => iIsUsable_any (lo := lo) (hi := hi) (lo' := lo') (hi' := hi') c f u1 u2 W k h h' ⟨by show c.mod.size ≤ _; omega, by show c.body.length ≤ _; omega, by show totB c.body ≤ _; omega⟩ hh hh' hp hn (by omega) (by omega)
      have h3 := fun W (h : Gr w W) => toFile_own (f, fv) W (HBF.out _ h) h.size hlen
      have h4 := fun W (h : Gr w W) => toCompiled_own (c, cv) W (HBC.out _ h) h.size hlenc
      try simp only at h3 h4
      obtain ⟨R, hR⟩ : ∃ R, R = fUse c f := ⟨_, rfl⟩
      rw [← hR] at h1 h2
      have qr : (R != R) = false := by simp
      have H1 := Lib.hid h1
      have H2 := Lib.hid h2
      have H3 := Lib.hid h3
      have H4 := Lib.hid h4
      clear hq hql htot hq2 hql2 htot2 hR h1 h2 h3 h4 hsz hszc
      have hg2 := hg0.tr hB2
      -- region 8
      have hall : ∀ W, Gr ((w.alloc (.cells #[.int .i64 c.root, .string c.mod, .bool c.init, .int .i64 c.mode, .int .i64 c.stamp, .int .i64 c.size, .int .i64 c.hash, cv] 46)).alloc (.cells #[.int .i64 f.root, .string f.pkg, .string f.name, .bool f.init, .int .i64 f.stamp, fv] 48)) W →
          Gr ((w.alloc (.cells #[.int .i64 c.root, .string c.mod, .bool c.init, .int .i64 c.mode, .int .i64 c.stamp, .int .i64 c.size, .int .i64 c.hash, cv] 46)).alloc (.cells #[.int .i64 f.root, .string f.pkg, .string f.name, .bool f.init, .int .i64 f.stamp, fv] 48)) W ∧
          ((W.cell? ⟨w.heap.size, 0, none⟩ = some (.int .i64 c.root) ∧ W.cell? ⟨w.heap.size, 1, none⟩ = some (.string c.mod) ∧ W.cell? ⟨w.heap.size, 2, none⟩ = some (.bool c.init) ∧ W.cell? ⟨w.heap.size, 3, none⟩ = some (.int .i64 c.mode) ∧ W.cell? ⟨w.heap.size, 4, none⟩ = some (.int .i64 c.stamp) ∧ W.cell? ⟨w.heap.size, 5, none⟩ = some (.int .i64 c.size) ∧ W.cell? ⟨w.heap.size, 6, none⟩ = some (.int .i64 c.hash) ∧ W.cell? ⟨w.heap.size, 7, none⟩ = some cv) ∧
          (W.cell? ⟨w.heap.size + 1, 0, none⟩ = some (.int .i64 f.root) ∧ W.cell? ⟨w.heap.size + 1, 1, none⟩ = some (.string f.pkg) ∧ W.cell? ⟨w.heap.size + 1, 2, none⟩ = some (.string f.name) ∧ W.cell? ⟨w.heap.size + 1, 3, none⟩ = some (.bool f.init) ∧ W.cell? ⟨w.heap.size + 1, 4, none⟩ = some (.int .i64 f.stamp) ∧ W.cell? ⟨w.heap.size + 1, 5, none⟩ = some fv)) :=
        fun W h => ⟨h, HARG.out W h⟩
      have HALL := Lib.hid hall
      clear hall
      go_wp2
      refine wp_region_held_drew (S := (fun W => Gr ((w.alloc (.cells #[.int .i64 c.root, .string c.mod, .bool c.init, .int .i64 c.mode, .int .i64 c.stamp, .int .i64 c.size, .int .i64 c.hash, cv] 46)).alloc (.cells #[.int .i64 f.root, .string f.pkg, .string f.name, .bool f.init, .int .i64 f.stamp, fv] 48)) W ∧ ((W.cell? ⟨w.heap.size, 0, none⟩ = some (.int .i64 c.root) ∧ W.cell? ⟨w.heap.size, 1, none⟩ = some (.string c.mod) ∧ W.cell? ⟨w.heap.size, 2, none⟩ = some (.bool c.init) ∧ W.cell? ⟨w.heap.size, 3, none⟩ = some (.int .i64 c.mode) ∧ W.cell? ⟨w.heap.size, 4, none⟩ = some (.int .i64 c.stamp) ∧ W.cell? ⟨w.heap.size, 5, none⟩ = some (.int .i64 c.size) ∧ W.cell? ⟨w.heap.size, 6, none⟩ = some (.int .i64 c.hash) ∧ W.cell? ⟨w.heap.size, 7, none⟩ = some cv) ∧ (W.cell? ⟨w.heap.size + 1, 0, none⟩ = some (.int .i64 f.root) ∧ W.cell? ⟨w.heap.size + 1, 1, none⟩ = some (.string f.pkg) ∧ W.cell? ⟨w.heap.size + 1, 2, none⟩ = some (.string f.name) ∧ W.cell? ⟨w.heap.size + 1, 3, none⟩ = some (.bool f.init) ∧ W.cell? ⟨w.heap.size + 1, 4, none⟩ = some (.int .i64 f.stamp) ∧ W.cell? ⟨w.heap.size + 1, 5, none⟩ = some fv)))) (by kernel_rfl) (HALL.out _ (below_drewN hB2 1)) (fun hS0 => ?_)
      refine wpAnyH_take (i := 0) (v := ?_) rfl (by kernel_rfl) (by kernel_rfl) (by kernel_rfl) (fun _ _ _ h => h) (Or.inl ⟨by rfl, ?_⟩) hS0 ?_
      rotate_left
      · (intro W hSw; (try dsimp only at hSw); go_simp; try (with_reducible rfl))
      try simp only [Act.put, List.getElem_toArray, List.getElem_cons_succ, List.getElem_cons_zero, List.setIfInBounds_toArray, List.set_cons_zero, List.set_cons_succ]
      refine wpAnyH_take (i := 2) (v := ?_) rfl (by kernel_rfl) (by kernel_rfl) (by kernel_rfl) (fun _ _ _ h => h) (Or.inl ⟨by rfl, ?_⟩) hS0 ?_
      rotate_left
      · (intro W hSw; (try dsimp only at hSw); go_simp; try (with_reducible rfl))
      try simp only [Act.put, List.getElem_toArray, List.getElem_cons_succ, List.getElem_cons_zero, List.setIfInBounds_toArray, List.set_cons_zero, List.set_cons_succ]
      refine wpAnyH_ready (rs := [1]) (by kernel_rfl) (by simp) ?_
      refine AllReadyH.cons rfl (fun K hK => ?_) AllReadyH.nil
      go_simp
      refine (H4.out _ (hg0.tr hS0.1)).mono ?_
      rintro e w3 ⟨u3, rfl, ho3, hb3⟩
      try go_wp2_with fail
      refine hK.out _ _ (HALL.out _ (hS0.1.tr hb3)) (fun hS1 => ?_)
      clear hK K
      try simp only [Act.put, List.getElem_toArray, List.getElem_cons_succ, List.getElem_cons_zero, List.setIfInBounds_toArray, List.set_cons_zero, List.set_cons_succ]
      refine wpAnyH_ready (rs := [3]) (by kernel_rfl) (by simp) ?_
      refine AllReadyH.cons rfl (fun K hK => ?_) AllReadyH.nil
      go_simp
      refine (H3.out _ (hg0.tr hS1.1)).mono ?_
      rintro e w4 ⟨u4, rfl, ho4, hb4⟩
      try go_wp2_with fail
      refine hK.out _ _ (HALL.out _ (hS1.1.tr hb4)) (fun hS2 => ?_)
      clear hK K
      try simp only [Act.put, List.getElem_toArray, List.getElem_cons_succ, List.getElem_cons_zero, List.setIfInBounds_toArray, List.set_cons_zero, List.set_cons_succ]
      have r3 := SlR.below (ho3.reads (fun _ _ => rfl)) hb4 (Nat.le_refl _)
      have r4 := ho4.reads (fun _ _ => rfl)
      have hs34 := hb4.size
      obtain ⟨a3, k3, e3, _, _⟩ := ho3.form
      subst e3
      obtain ⟨a4, k4, e4, _, _⟩ := ho4.form
      subst e4
      refine wpAnyH_ready (rs := [4]) (by kernel_rfl) (by simp) ?_
      refine AllReadyH.cons rfl (fun K hK => ?_) AllReadyH.nil
      go_simp
      refine (H1.out _ _ _ _ _ _ _ (hok.gr (hg0.tr hS2.1)) r3 hs34 r4 (Nat.le_refl _)).mono ?_
      rintro e w5 ⟨rfl, hb5⟩
      try go_wp2_with fail
      refine hK.out _ _ (HALL.out _ (hS2.1.tr hb5)) (fun hS3 => ?_)
      clear hK K
      try simp only [Act.put, List.getElem_toArray, List.getElem_cons_succ, List.getElem_cons_zero, List.setIfInBounds_toArray, List.set_cons_zero, List.set_cons_succ]
      refine wpAnyH_take (i := 5) (v := ?_) rfl (by kernel_rfl) (by kernel_rfl) (by kernel_rfl) (fun _ _ _ h => h) (Or.inl ⟨by rfl, ?_⟩) hS3 ?_
      rotate_left
      · (intro W hSw; (try dsimp only at hSw); go_simp; try (with_reducible rfl))
      try simp only [Act.put, List.getElem_toArray, List.getElem_cons_succ, List.getElem_cons_zero, List.setIfInBounds_toArray, List.set_cons_zero, List.set_cons_succ]
      refine wpAnyH_done (by kernel_rfl) ?_ _
      have hB3 := hS3.1
      obtain ⟨⟨c0, c1, c2, c3, c4, c5, c6, c7⟩, f0, f1, f2, f3, f4, f5⟩ := hS3.2
      clear r3 r4
      -- the arguments' copies
      go_wp2_with fail
      refine (H4.out _ (hg0.tr hB3)).mono ?_
      rintro e w6 ⟨u6, rfl, ho6, hb6⟩
      obtain ⟨a6, k6, e6, _, _⟩ := ho6.form
      subst e6
      have hB6 := hB3.tr hb6
      have rowC := heap_alloc_new w6 (.cells #[.int .i64 c.root, .string c.mod, .bool c.init, .int .i64 c.mode, .int .i64 c.stamp, .int .i64 c.size, .int .i64 c.hash, .slice a6 c.body.length k6] 54)
      have gC := gr_al w6 (.cells #[.int .i64 c.root, .string c.mod, .bool c.init, .int .i64 c.mode, .int .i64 c.stamp, .int .i64 c.size, .int .i64 c.hash, .slice a6 c.body.length k6] 54)
      have hB6a := hB6.tr gC
      obtain ⟨_, f0, f1, f2, f3, f4, f5⟩ := HARG.out _ hB6a
      go_wp2_with fail
      refine (H3.out _ (hg0.tr hB6a)).mono ?_
      rintro e w7 ⟨u7, rfl, ho7, hb7⟩
      obtain ⟨a7, k7, e7, _, _⟩ := ho7.form
      subst e7
      have hB7 := hB6a.tr hb7
      have rowF := heap_alloc_new w7 (.cells #[.int .i64 f.root, .string f.pkg, .string f.name, .bool f.init, .int .i64 f.stamp, .slice a7 f.body.length k7] 57)
      have gF := gr_al w7 (.cells #[.int .i64 f.root, .string f.pkg, .string f.name, .bool f.init, .int .i64 f.stamp, .slice a7 f.body.length k7] 57)
      have hB7a := hB7.tr gF
      have g67 := (gC.tr hb7).tr gF
      obtain ⟨⟨x0, x1, x2, x3, x4, x5, x6, x7⟩, _⟩ := rows8 ((((hb7.tr gF).block w6.heap.size (by simp))).trans rowC)
      go_wp2_with fail
      refine (H2.out _ _ _ _ _ _ _ (hok.gr (hg0.tr hB7a)) (SlR.below (ho6.reads (fun _ _ => rfl)) g67 (Nat.le_refl _)) g67.size (SlR.below (ho7.reads (fun _ _ => rfl)) gF (Nat.le_refl _)) gF.size).mono ?_
      rintro e w8 ⟨rfl, hb8⟩
      have hB8 := hB7a.tr hb8
      have hall : ∀ W, Gr w8 W → Gr w8 W ∧ ((W.cell? ⟨w.heap.size, 0, none⟩ = some (.int .i64 c.root) ∧ W.cell? ⟨w.heap.size, 1, none⟩ = some (.string c.mod) ∧ W.cell? ⟨w.heap.size, 2, none⟩ = some (.bool c.init) ∧ W.cell? ⟨w.heap.size, 3, none⟩ = some (.int .i64 c.mode) ∧ W.cell? ⟨w.heap.size, 4, none⟩ = some (.int .i64 c.stamp) ∧ W.cell? ⟨w.heap.size, 5, none⟩ = some (.int .i64 c.size) ∧ W.cell? ⟨w.heap.size, 6, none⟩ = some (.int .i64 c.hash) ∧ W.cell? ⟨w.heap.size, 7, none⟩ = some cv) ∧
          (W.cell? ⟨w.heap.size + 1, 0, none⟩ = some (.int .i64 f.root) ∧ W.cell? ⟨w.heap.size + 1, 1, none⟩ = some (.string f.pkg) ∧ W.cell? ⟨w.heap.size + 1, 2, none⟩ = some (.string f.name) ∧ W.cell? ⟨w.heap.size + 1, 3, none⟩ = some (.bool f.init) ∧ W.cell? ⟨w.heap.size + 1, 4, none⟩ = some (.int .i64 f.stamp) ∧ W.cell? ⟨w.heap.size + 1, 5, none⟩ = some fv)) ∧
          (W.cell? ⟨w6.heap.size, 0, none⟩ = some (.int .i64 c.root) ∧ W.cell? ⟨w6.heap.size, 1, none⟩ = some (.string c.mod) ∧ W.cell? ⟨w6.heap.size, 2, none⟩ = some (.bool c.init) ∧ W.cell? ⟨w6.heap.size, 3, none⟩ = some (.int .i64 c.mode) ∧ W.cell? ⟨w6.heap.size, 4, none⟩ = some (.int .i64 c.stamp) ∧ W.cell? ⟨w6.heap.size, 5, none⟩ = some (.int .i64 c.size) ∧ W.cell? ⟨w6.heap.size, 6, none⟩ = some (.int .i64 c.hash) ∧ W.cell? ⟨w6.heap.size, 7, none⟩ = some (.slice a6 c.body.length k6)) ∧
          (W.cell? ⟨w7.heap.size, 0, none⟩ = some (.int .i64 f.root) ∧ W.cell? ⟨w7.heap.size, 1, none⟩ = some (.string f.pkg) ∧ W.cell? ⟨w7.heap.size, 2, none⟩ = some (.string f.name) ∧ W.cell? ⟨w7.heap.size, 3, none⟩ = some (.bool f.init) ∧ W.cell? ⟨w7.heap.size, 4, none⟩ = some (.int .i64 f.stamp) ∧ W.cell? ⟨w7.heap.size, 5, none⟩ = some (.slice a7 f.body.length k7)) :=
        fun W h => ⟨h, HARG.out W (hB8.tr h), (rows8 ((((((hb7.tr gF).tr hb8).tr h).block w6.heap.size (by simp))).trans rowC)).1, cells6 rowF (hb8.tr h)⟩
      have HALL2 := Lib.hid hall
      have g68 := g67.tr hb8
      have g78 := gF.tr hb8
      clear hall rowC rowF c0 c1 c2 c3 c4 c5 c6 c7 f0 f1 f2 f3 f4 f5 x0 x1 x2 x3 x4 x5 x6 x7
      go_wp2
      refine wp_region_held_drew (S := (fun W => Gr w8 W ∧ ((W.cell? ⟨w.heap.size, 0, none⟩ = some (.int .i64 c.root) ∧ W.cell? ⟨w.heap.size, 1, none⟩ = some (.string c.mod) ∧ W.cell? ⟨w.heap.size, 2, none⟩ = some (.bool c.init) ∧ W.cell? ⟨w.heap.size, 3, none⟩ = some (.int .i64 c.mode) ∧ W.cell? ⟨w.heap.size, 4, none⟩ = some (.int .i64 c.stamp) ∧ W.cell? ⟨w.heap.size, 5, none⟩ = some (.int .i64 c.size) ∧ W.cell? ⟨w.heap.size, 6, none⟩ = some (.int .i64 c.hash) ∧ W.cell? ⟨w.heap.size, 7, none⟩ = some cv) ∧ (W.cell? ⟨w.heap.size + 1, 0, none⟩ = some (.int .i64 f.root) ∧ W.cell? ⟨w.heap.size + 1, 1, none⟩ = some (.string f.pkg) ∧ W.cell? ⟨w.heap.size + 1, 2, none⟩ = some (.string f.name) ∧ W.cell? ⟨w.heap.size + 1, 3, none⟩ = some (.bool f.init) ∧ W.cell? ⟨w.heap.size + 1, 4, none⟩ = some (.int .i64 f.stamp) ∧ W.cell? ⟨w.heap.size + 1, 5, none⟩ = some fv)) ∧ (W.cell? ⟨w6.heap.size, 0, none⟩ = some (.int .i64 c.root) ∧ W.cell? ⟨w6.heap.size, 1, none⟩ = some (.string c.mod) ∧ W.cell? ⟨w6.heap.size, 2, none⟩ = some (.bool c.init) ∧ W.cell? ⟨w6.heap.size, 3, none⟩ = some (.int .i64 c.mode) ∧ W.cell? ⟨w6.heap.size, 4, none⟩ = some (.int .i64 c.stamp) ∧ W.cell? ⟨w6.heap.size, 5, none⟩ = some (.int .i64 c.size) ∧ W.cell? ⟨w6.heap.size, 6, none⟩ = some (.int .i64 c.hash) ∧ W.cell? ⟨w6.heap.size, 7, none⟩ = some (.slice a6 c.body.length k6)) ∧ (W.cell? ⟨w7.heap.size, 0, none⟩ = some (.int .i64 f.root) ∧ W.cell? ⟨w7.heap.size, 1, none⟩ = some (.string f.pkg) ∧ W.cell? ⟨w7.heap.size, 2, none⟩ = some (.string f.name) ∧ W.cell? ⟨w7.heap.size, 3, none⟩ = some (.bool f.init) ∧ W.cell? ⟨w7.heap.size, 4, none⟩ = some (.int .i64 f.stamp) ∧ W.cell? ⟨w7.heap.size, 5, none⟩ = some (.slice a7 f.body.length k7)))) (by kernel_rfl) (HALL2.out _ (below_drewN (Gr.rfl' w8) 1)) (fun hT0 => ?_)
      refine wpAnyH_take (i := 0) (v := ?_) rfl (by kernel_rfl) (by kernel_rfl) (by kernel_rfl) (fun _ _ _ h => h) (Or.inl ⟨by rfl, ?_⟩) hT0 ?_
      rotate_left
      · (intro W hSw; (try dsimp only at hSw); go_simp; try (with_reducible rfl))
      try simp only [Act.put, List.getElem_toArray, List.getElem_cons_succ, List.getElem_cons_zero, List.setIfInBounds_toArray, List.set_cons_zero, List.set_cons_succ]
      refine wpAnyH_take (i := 1) (v := ?_) rfl (by kernel_rfl) (by kernel_rfl) (by kernel_rfl) (fun _ _ _ h => h) (Or.inl ⟨by rfl, ?_⟩) hT0 ?_
      rotate_left
      · (intro W hSw; (try dsimp only at hSw); go_simp; try (with_reducible rfl))
      try simp only [Act.put, List.getElem_toArray, List.getElem_cons_succ, List.getElem_cons_zero, List.setIfInBounds_toArray, List.set_cons_zero, List.set_cons_succ]
      refine wpAnyH_ready (rs := [2]) (by kernel_rfl) (by simp) ?_
      refine AllReadyH.cons rfl (fun K hK => ?_) AllReadyH.nil
      go_simp
      refine (H4.out _ ((hg0.tr hB8).tr hT0.1)).mono ?_
      rintro e w9 ⟨u9, rfl, ho9, hb9⟩
      try go_wp2_with fail
      refine hK.out _ _ (HALL2.out _ (hT0.1.tr hb9)) (fun hT1 => ?_)
      clear hK K
      try simp only [Act.put, List.getElem_toArray, List.getElem_cons_succ, List.getElem_cons_zero, List.setIfInBounds_toArray, List.set_cons_zero, List.set_cons_succ]
      refine wpAnyH_ready (rs := [3]) (by kernel_rfl) (by simp) ?_
      refine AllReadyH.cons rfl (fun K hK => ?_) AllReadyH.nil
      go_simp
      refine (eqCompiled_any c (.slice a6 c.body.length k6) u9 _ (SlR.below (ho6.reads (fun _ _ => rfl)) (g68.tr hT1.1) (Nat.le_refl _)) (ho9.reads (fun _ _ => rfl)) (g68.tr hT1.1).size (Nat.le_refl _)).mono ?_
      rintro e w10 ⟨rfl, hb10⟩
      try go_wp2_with fail
      refine hK.out _ _ (HALL2.out _ (hT1.1.tr hb10)) (fun hT2 => ?_)
      clear hK K
      try simp only [Act.put, List.getElem_toArray, List.getElem_cons_succ, List.getElem_cons_zero, List.setIfInBounds_toArray, List.set_cons_zero, List.set_cons_succ]
      refine wpAnyH_take (i := 4) (v := ?_) rfl (by kernel_rfl) (by kernel_rfl) (by kernel_rfl) (fun _ _ _ h => h) (Or.inl ⟨by rfl, ?_⟩) hT2 ?_
      rotate_left
      · (intro W hSw; (try dsimp only at hSw); go_simp; try (with_reducible rfl))
      try simp only [Act.put, List.getElem_toArray, List.getElem_cons_succ, List.getElem_cons_zero, List.setIfInBounds_toArray, List.set_cons_zero, List.set_cons_succ]
      refine wpAnyH_done (by kernel_rfl) ?_ _
      go_wp2
      refine wp_region_held_drew (S := (fun W => Gr w8 W ∧ ((W.cell? ⟨w.heap.size, 0, none⟩ = some (.int .i64 c.root) ∧ W.cell? ⟨w.heap.size, 1, none⟩ = some (.string c.mod) ∧ W.cell? ⟨w.heap.size, 2, none⟩ = some (.bool c.init) ∧ W.cell? ⟨w.heap.size, 3, none⟩ = some (.int .i64 c.mode) ∧ W.cell? ⟨w.heap.size, 4, none⟩ = some (.int .i64 c.stamp) ∧ W.cell? ⟨w.heap.size, 5, none⟩ = some (.int .i64 c.size) ∧ W.cell? ⟨w.heap.size, 6, none⟩ = some (.int .i64 c.hash) ∧ W.cell? ⟨w.heap.size, 7, none⟩ = some cv) ∧ (W.cell? ⟨w.heap.size + 1, 0, none⟩ = some (.int .i64 f.root) ∧ W.cell? ⟨w.heap.size + 1, 1, none⟩ = some (.string f.pkg) ∧ W.cell? ⟨w.heap.size + 1, 2, none⟩ = some (.string f.name) ∧ W.cell? ⟨w.heap.size + 1, 3, none⟩ = some (.bool f.init) ∧ W.cell? ⟨w.heap.size + 1, 4, none⟩ = some (.int .i64 f.stamp) ∧ W.cell? ⟨w.heap.size + 1, 5, none⟩ = some fv)) ∧ (W.cell? ⟨w6.heap.size, 0, none⟩ = some (.int .i64 c.root) ∧ W.cell? ⟨w6.heap.size, 1, none⟩ = some (.string c.mod) ∧ W.cell? ⟨w6.heap.size, 2, none⟩ = some (.bool c.init) ∧ W.cell? ⟨w6.heap.size, 3, none⟩ = some (.int .i64 c.mode) ∧ W.cell? ⟨w6.heap.size, 4, none⟩ = some (.int .i64 c.stamp) ∧ W.cell? ⟨w6.heap.size, 5, none⟩ = some (.int .i64 c.size) ∧ W.cell? ⟨w6.heap.size, 6, none⟩ = some (.int .i64 c.hash) ∧ W.cell? ⟨w6.heap.size, 7, none⟩ = some (.slice a6 c.body.length k6)) ∧ (W.cell? ⟨w7.heap.size, 0, none⟩ = some (.int .i64 f.root) ∧ W.cell? ⟨w7.heap.size, 1, none⟩ = some (.string f.pkg) ∧ W.cell? ⟨w7.heap.size, 2, none⟩ = some (.string f.name) ∧ W.cell? ⟨w7.heap.size, 3, none⟩ = some (.bool f.init) ∧ W.cell? ⟨w7.heap.size, 4, none⟩ = some (.int .i64 f.stamp) ∧ W.cell? ⟨w7.heap.size, 5, none⟩ = some (.slice a7 f.body.length k7)))) (by kernel_rfl) (HALL2.out _ (below_drewN hT2.1 1)) (fun hT3 => ?_)
      refine wpAnyH_take (i := 0) (v := ?_) rfl (by kernel_rfl) (by kernel_rfl) (by kernel_rfl) (fun _ _ _ h => h) (Or.inl ⟨by rfl, ?_⟩) hT3 ?_
      rotate_left
      · (intro W hSw; (try dsimp only at hSw); go_simp; try (with_reducible rfl))
      try simp only [Act.put, List.getElem_toArray, List.getElem_cons_succ, List.getElem_cons_zero, List.setIfInBounds_toArray, List.set_cons_zero, List.set_cons_succ]
      refine wpAnyH_take (i := 1) (v := ?_) rfl (by kernel_rfl) (by kernel_rfl) (by kernel_rfl) (fun _ _ _ h => h) (Or.inl ⟨by rfl, ?_⟩) hT3 ?_
      rotate_left
      · (intro W hSw; (try dsimp only at hSw); go_simp; try (with_reducible rfl))
      try simp only [Act.put, List.getElem_toArray, List.getElem_cons_succ, List.getElem_cons_zero, List.setIfInBounds_toArray, List.set_cons_zero, List.set_cons_succ]
      refine wpAnyH_ready (rs := [2]) (by kernel_rfl) (by simp) ?_
      refine AllReadyH.cons rfl (fun K hK => ?_) AllReadyH.nil
      go_simp
      refine (H3.out _ ((hg0.tr hB8).tr hT3.1)).mono ?_
      rintro e w11 ⟨u11, rfl, ho11, hb11⟩
      try go_wp2_with fail
      refine hK.out _ _ (HALL2.out _ (hT3.1.tr hb11)) (fun hT4 => ?_)
      clear hK K
      try simp only [Act.put, List.getElem_toArray, List.getElem_cons_succ, List.getElem_cons_zero, List.setIfInBounds_toArray, List.set_cons_zero, List.set_cons_succ]
      refine wpAnyH_ready (rs := [3]) (by kernel_rfl) (by simp) ?_
      refine AllReadyH.cons rfl (fun K hK => ?_) AllReadyH.nil
      go_simp
      refine (eqFile_any f (.slice a7 f.body.length k7) u11 _ (SlR.below (ho7.reads (fun _ _ => rfl)) (g78.tr hT4.1) (Nat.le_refl _)) (ho11.reads (fun _ _ => rfl)) (g78.tr hT4.1).size (Nat.le_refl _)).mono ?_
      rintro e w12 ⟨rfl, hb12⟩
      try go_wp2_with fail
      refine hK.out _ _ (HALL2.out _ (hT4.1.tr hb12)) (fun hT5 => ?_)
      clear hK K
      try simp only [Act.put, List.getElem_toArray, List.getElem_cons_succ, List.getElem_cons_zero, List.setIfInBounds_toArray, List.set_cons_zero, List.set_cons_succ]
      refine wpAnyH_take (i := 4) (v := ?_) rfl (by kernel_rfl) (by kernel_rfl) (by kernel_rfl) (fun _ _ _ h => h) (Or.inl ⟨by rfl, ?_⟩) hT5 ?_
      rotate_left
      · (intro W hSw; (try dsimp only at hSw); go_simp; try (with_reducible rfl))
      try simp only [Act.put, List.getElem_toArray, List.getElem_cons_succ, List.getElem_cons_zero, List.setIfInBounds_toArray, List.set_cons_zero, List.set_cons_succ]
      refine wpAnyH_done (by kernel_rfl) ?_ _
      go_wp2
      go_ret
      exact ⟨rfl, (hg0.tr hB8).tr hT5.1⟩
end Go.Proofs.YteccopgnlbphbaaDoor
