/-
  Walks: valid acts, both packages; acts as arguments; the law on valid acts. Printed by actsv.py.
-/
import Derived.Test.YtomndnlpogikdaaDoorActs
import Derived.Test.YtomndnlpogikdaaDoorOpen
namespace Imp
open Go Go.RowKit
def okAct (a : Acc) : Bool := if a.kind = 0 then okFil a.file else if a.kind = 1 then true else if a.kind = 2 then okBody a.file.body else if a.kind = 3 then vName (bs a.nm) else false
def okActs (L : List Acc) : Bool := L.all okAct && decide ((L.length : Int) ≤ 20)
def SmA (r : AR) : Prop := r.1.file.pkg.size ≤ 4194304 ∧ r.1.file.name.size ≤ 4194304 ∧ (∀ s ∈ r.1.file.body, szSt s ≤ 16777216) ∧ r.1.nm.size ≤ 16777216
end Imp
namespace Go.Proofs.YtomndnlpogikdaaDoor
open Go Go.RowKit Go.ChangeShapes Go.WideShapes Go.ChangeAt Go.Deep Imp
set_option linter.unusedVariables false
set_option linter.unusedSimpArgs false

set_option maxHeartbeats 3200000 in
theorem sActs_any {lo hi : Nat} (v : Value) (L : List AR) (w : World) (hok : OkW w) (hv0 : AlR w lo hi v L) (hhi : hi ≤ w.heap.size) (hsm : ∀ r ∈ L, SmA r) :
    Calls Tryd.prog 69 #[v] w fun e w' => e = .returned (.bool (okActs (L.map (·.1)))) ∧ Gr w w' := by
  obtain ⟨hv, hbod⟩ := hv0
  obtain ⟨a, c, rfl, h1, h2, h3⟩ := hv
  unfold maxLen at h2
  obtain ⟨R, hR⟩ : ∃ R, R = okActs (L.map (·.1)) := ⟨_, rfl⟩
  rw [← hR]
  obtain ⟨T, hT⟩ : ∃ T, T = L.map (·.1) := ⟨_, rfl⟩
  rw [← hT] at hR
  have hTl : T.length = L.length := by rw [hT, List.length_map]
  have HTT := Lib.hid hT
  have HTL := Lib.hid hTl
  have HR := Lib.hid hR
  have HB := Lib.hid hbod
  have HM := Lib.hid hsm
  clear hsm hR hbod hT hTl
  go_enter Tryd.func69, Tryd.ntmps69
  go_wp2
  go_loopw [3] (fun i wr => ∃ k : Nat, k ≤ L.length ∧ i = .int .i64 k ∧ (T.take k).all okAct = true ∧ Gr w wr) (fun i _ => L.length - (intOf i).toNat)
  case atStart => exact ⟨0, Nat.zero_le _, rfl, by simp, Gr.rfl' _⟩
  case round =>
    obtain ⟨k, hk, rfl, hall, hgr⟩ := hrel
    have H := Lib.hid hall
    clear hall
    by_cases hlt : k < L.length
    · obtain ⟨b, o, rfl, hbb, hc⟩ := h3 k hlt
      obtain ⟨x, hx⟩ : ∃ x, x = L[k] := ⟨_, rfl⟩
      have cc := cells_act (w := wr) (b := b) (o := o) (k := k) (x := x) (fun j u hu => (hgr.cell (p := ⟨b, o + k * 9 + j, none⟩) (Nat.lt_of_lt_of_le hbb.2 hhi)).trans (hc j u (by rw [← hx]; exact hu)))
      have hmx := HM.out L[k] (List.getElem_mem hlt)
      have hbx := HB.out L[k] (List.getElem_mem hlt)
      rw [← hx] at hmx hbx
      have hltT : k < T.length := by rw [HTL.out]; exact hlt
      have hat := all_take_succ okAct T k hltT
      have hTk : T[k] = x.1 := by
        have e1 : T[k]? = (L.map (·.1))[k]? := by rw [HTT.out]
        rw [List.getElem?_map, List.getElem?_eq_getElem hltT, List.getElem?_eq_getElem hlt, ← hx] at e1
        exact Option.some.inj e1
      rw [hTk] at hat
      have hkL : (k : Int) < (L.length : Int) := by omega
      obtain ⟨⟨kind, f, index, nm⟩, xv⟩ := x
      have hbx : SlR w lo hi 5 eSt xv f.body := hbx
      obtain ⟨m1, m2, m3, m4⟩ := hmx
      have m1 : f.pkg.size ≤ 4194304 := m1
      have m2 : f.name.size ≤ 4194304 := m2
      have m3 : ∀ s ∈ f.body, szSt s ≤ 16777216 := m3
      have m4 : nm.size ≤ 16777216 := m4
      obtain ⟨ba, bc, rfl, _, _⟩ := hbx.form
      obtain ⟨c0, c1, c2, c3, c4, c5, c6, c7, c8⟩ := cc
      obtain ⟨V, hV⟩ : ∃ V, okAct ⟨kind, f, index, nm⟩ = V := ⟨_, rfl⟩
      have hF := fun W (g : Gr w W) => svalidFile_any (f, .slice ba f.body.length bc) W (hok.gr g) (SlR.below hbx g hhi) (Nat.le_trans hhi g.size) m1 m2 m3
      have hB := fun W (g : Gr w W) => svalidBody_any (.slice ba f.body.length bc) f.body W (SlR.below hbx g hhi) (Nat.le_trans hhi g.size) m3 (hok.gr g)
      have hN := fun W (g : Gr w W) => svalidName_any nm W m4 
      have g2 : Gr w (wr.alloc (.cells #[.int .i64 kind, .int .i64 f.root, .string f.pkg, .string f.name, .bool f.init, .int .i64 f.stamp, .slice ba f.body.length bc, .int .i64 index, .string nm] 95)) := hgr.tr (gr_al wr _)
      have hVV : okAct T[k] = V := by rw [hTk]; exact hV
      simp only [hV] at hat
      have HA := Lib.hid hat
      have HVV := Lib.hid hVV
      have HLT := Lib.hid hltT
      unfold okAct at hV
      dsimp only at hF hB hN hV
      clear hc h3 hat hx hTk hbx hVV
      by_cases k0 : kind = 0
      · subst k0
        have hV' : okFil f = V := by simpa using hV
        simp only [hV'] at hF
        have HF := Lib.hid hF
        clear hF hB hN hV hV'
        go_wp2_with fail
        refine (HF.out _ g2).mono ?_
        rintro e w2 ⟨rfl, hb2⟩
        cases V
        · go_wp2
          go_ret
          exact ⟨ret_bool (by rw [HR.out, okActs, all_false_at _ _ k HLT.out HVV.out]; rfl), g2.tr hb2⟩
        · go_wp2
          go_roundw
          case rel => exact ⟨k + 1, by omega, by go_num, by rw [HA.out, H.out]; rfl, g2.tr hb2⟩
          case measure => simp [intOf]; omega
      · by_cases k1 : kind = 1
        · subst k1
          have hV' : true = V := by simpa using hV
          subst hV'
          clear hF hB hN hV
          go_wp2
          go_roundw
          case rel => exact ⟨k + 1, by omega, by go_num, by rw [HA.out, H.out]; rfl, g2⟩
          case measure => simp [intOf]; omega
        · by_cases k2 : kind = 2
          · subst k2
            have hV' : okBody f.body = V := by simpa using hV
            simp only [hV'] at hB
            have HBo := Lib.hid hB
            clear hF hB hN hV hV'
            go_wp2_with fail
            refine (HBo.out _ g2).mono ?_
            rintro e w2 ⟨rfl, hb2⟩
            cases V
            · go_wp2
              go_ret
              exact ⟨ret_bool (by rw [HR.out, okActs, all_false_at _ _ k HLT.out HVV.out]; rfl), g2.tr hb2⟩
            · go_wp2
              go_roundw
              case rel => exact ⟨k + 1, by omega, by go_num, by rw [HA.out, H.out]; rfl, g2.tr hb2⟩
              case measure => simp [intOf]; omega
          · by_cases k3 : kind = 3
            · subst k3
              have hV' : vName (bs nm) = V := by simpa using hV
              simp only [hV'] at hN
              have HN := Lib.hid hN
              clear hF hB hN hV hV'
              go_wp2_with fail
              refine (HN.out _ g2).mono ?_
              rintro e w2 ⟨rfl, hb2⟩
              cases V
              · go_wp2
                go_ret
                exact ⟨ret_bool (by rw [HR.out, okActs, all_false_at _ _ k HLT.out HVV.out]; rfl), g2.tr hb2⟩
              · go_wp2
                go_roundw
                case rel => exact ⟨k + 1, by omega, by go_num, by rw [HA.out, H.out]; rfl, g2.tr hb2⟩
                case measure => simp [intOf]; omega
            · have hV' : false = V := by simpa [k0, k1, k2, k3] using hV
              subst hV'
              clear hF hB hN hV
              have q0 : (kind == 0) = false := by simpa using k0
              have q1 : (kind == 1) = false := by simpa using k1
              have q2 : (kind == 2) = false := by simpa using k2
              have q3 : (kind == 3) = false := by simpa using k3
              go_wp2
              go_ret
              exact ⟨ret_bool (by rw [HR.out, okActs, all_false_at _ _ k HLT.out HVV.out]; rfl), g2⟩
    · have hall : T.all okAct = true := by rw [← List.take_of_length_le (show T.length ≤ k by rw [HTL.out]; omega)]; exact H.out
      have hfin : R = decide ((L.length : Int) ≤ 20) := by rw [HR.out, okActs, hall, Bool.true_and, HTL.out]
      have HF := Lib.hid hfin
      clear hall hfin
      go_wp2
      go_ret
      exact ⟨ret_bool (by rw [HF.out]), hgr⟩
set_option maxHeartbeats 3200000 in
theorem iActs_any {lo hi : Nat} (v : Value) (L : List AR) (w : World) (hok : OkW w) (hv0 : AlR w lo hi v L) (hhi : hi ≤ w.heap.size) (hsm : ∀ r ∈ L, SmA r) :
    Calls Tryd.prog 31 #[v] w fun e w' => e = .returned (.bool (okActs (L.map (·.1)))) ∧ Gr w w' := by
  obtain ⟨hv, hbod⟩ := hv0
  obtain ⟨a, c, rfl, h1, h2, h3⟩ := hv
  unfold maxLen at h2
  obtain ⟨R, hR⟩ : ∃ R, R = okActs (L.map (·.1)) := ⟨_, rfl⟩
  rw [← hR]
  obtain ⟨T, hT⟩ : ∃ T, T = L.map (·.1) := ⟨_, rfl⟩
  rw [← hT] at hR
  have hTl : T.length = L.length := by rw [hT, List.length_map]
  have HTT := Lib.hid hT
  have HTL := Lib.hid hTl
  have HR := Lib.hid hR
  have HB := Lib.hid hbod
  have HM := Lib.hid hsm
  clear hsm hR hbod hT hTl
  go_enter Tryd.func31, Tryd.ntmps31
  go_wp2
  go_loopw [8] (fun i wr => ∃ k : Nat, k ≤ L.length ∧ i = .int .i64 k ∧ (T.take k).all okAct = true ∧ Gr w wr) (fun i _ => L.length - (intOf i).toNat)
  case atStart => exact ⟨0, Nat.zero_le _, rfl, by simp, Gr.rfl' _⟩
  case round =>
    obtain ⟨k, hk, rfl, hall, hgr⟩ := hrel
    have H := Lib.hid hall
    clear hall
    by_cases hlt : k < L.length
    · obtain ⟨b, o, rfl, hbb, hc⟩ := h3 k hlt
      obtain ⟨x, hx⟩ : ∃ x, x = L[k] := ⟨_, rfl⟩
      have cc := cells_act (w := wr) (b := b) (o := o) (k := k) (x := x) (fun j u hu => (hgr.cell (p := ⟨b, o + k * 9 + j, none⟩) (Nat.lt_of_lt_of_le hbb.2 hhi)).trans (hc j u (by rw [← hx]; exact hu)))
      have hmx := HM.out L[k] (List.getElem_mem hlt)
      have hbx := HB.out L[k] (List.getElem_mem hlt)
      rw [← hx] at hmx hbx
      have hltT : k < T.length := by rw [HTL.out]; exact hlt
      have hat := all_take_succ okAct T k hltT
      have hTk : T[k] = x.1 := by
        have e1 : T[k]? = (L.map (·.1))[k]? := by rw [HTT.out]
        rw [List.getElem?_map, List.getElem?_eq_getElem hltT, List.getElem?_eq_getElem hlt, ← hx] at e1
        exact Option.some.inj e1
      rw [hTk] at hat
      have hkL : (k : Int) < (L.length : Int) := by omega
      obtain ⟨⟨kind, f, index, nm⟩, xv⟩ := x
      have hbx : SlR w lo hi 5 eSt xv f.body := hbx
      obtain ⟨m1, m2, m3, m4⟩ := hmx
      have m1 : f.pkg.size ≤ 4194304 := m1
      have m2 : f.name.size ≤ 4194304 := m2
      have m3 : ∀ s ∈ f.body, szSt s ≤ 16777216 := m3
      have m4 : nm.size ≤ 16777216 := m4
      obtain ⟨ba, bc, rfl, _, _⟩ := hbx.form
      obtain ⟨c0, c1, c2, c3, c4, c5, c6, c7, c8⟩ := cc
      obtain ⟨V, hV⟩ : ∃ V, okAct ⟨kind, f, index, nm⟩ = V := ⟨_, rfl⟩
      have hF := fun W (g : Gr w W) => ifileOk_any (f, .slice ba f.body.length bc) W (hok.gr g) (SlR.below hbx g hhi) (Nat.le_trans hhi g.size) m1 m2 m3
      have hB := fun W (g : Gr w W) => iValidBody_any (.slice ba f.body.length bc) f.body W (SlR.below hbx g hhi) (Nat.le_trans hhi g.size) m3 (hok.gr g)
      have hN := fun W (g : Gr w W) => iValidName_any nm W m4 (hok.gr g)
      have g2 : Gr w (wr.alloc (.cells #[.int .i64 kind, .int .i64 f.root, .string f.pkg, .string f.name, .bool f.init, .int .i64 f.stamp, .slice ba f.body.length bc, .int .i64 index, .string nm] 95)) := hgr.tr (gr_al wr _)
      have hVV : okAct T[k] = V := by rw [hTk]; exact hV
      simp only [hV] at hat
      have HA := Lib.hid hat
      have HVV := Lib.hid hVV
      have HLT := Lib.hid hltT
      unfold okAct at hV
      dsimp only at hF hB hN hV
      clear hc h3 hat hx hTk hbx hVV
      by_cases k0 : kind = 0
      · subst k0
        have hV' : okFil f = V := by simpa using hV
        simp only [hV'] at hF
        have HF := Lib.hid hF
        clear hF hB hN hV hV'
        go_wp2_with fail
        refine (HF.out _ g2).mono ?_
        rintro e w2 ⟨rfl, hb2⟩
        cases V
        · go_wp2
          go_ret
          exact ⟨ret_bool (by rw [HR.out, okActs, all_false_at _ _ k HLT.out HVV.out]; rfl), g2.tr hb2⟩
        · go_wp2
          go_roundw
          case rel => exact ⟨k + 1, by omega, by go_num, by rw [HA.out, H.out]; rfl, g2.tr hb2⟩
          case measure => simp [intOf]; omega
      · by_cases k1 : kind = 1
        · subst k1
          have hV' : true = V := by simpa using hV
          subst hV'
          clear hF hB hN hV
          go_wp2
          go_roundw
          case rel => exact ⟨k + 1, by omega, by go_num, by rw [HA.out, H.out]; rfl, g2⟩
          case measure => simp [intOf]; omega
        · by_cases k2 : kind = 2
          · subst k2
            have hV' : okBody f.body = V := by simpa using hV
            simp only [hV'] at hB
            have HBo := Lib.hid hB
            clear hF hB hN hV hV'
            go_wp2_with fail
            refine (HBo.out _ g2).mono ?_
            rintro e w2 ⟨rfl, hb2⟩
            cases V
            · go_wp2
              go_ret
              exact ⟨ret_bool (by rw [HR.out, okActs, all_false_at _ _ k HLT.out HVV.out]; rfl), g2.tr hb2⟩
            · go_wp2
              go_roundw
              case rel => exact ⟨k + 1, by omega, by go_num, by rw [HA.out, H.out]; rfl, g2.tr hb2⟩
              case measure => simp [intOf]; omega
          · by_cases k3 : kind = 3
            · subst k3
              have hV' : vName (bs nm) = V := by simpa using hV
              simp only [hV'] at hN
              have HN := Lib.hid hN
              clear hF hB hN hV hV'
              go_wp2_with fail
              refine (HN.out _ g2).mono ?_
              rintro e w2 ⟨rfl, hb2⟩
              cases V
              · go_wp2
                go_ret
                exact ⟨ret_bool (by rw [HR.out, okActs, all_false_at _ _ k HLT.out HVV.out]; rfl), g2.tr hb2⟩
              · go_wp2
                go_roundw
                case rel => exact ⟨k + 1, by omega, by go_num, by rw [HA.out, H.out]; rfl, g2.tr hb2⟩
                case measure => simp [intOf]; omega
            · have hV' : false = V := by simpa [k0, k1, k2, k3] using hV
              subst hV'
              clear hF hB hN hV
              have q0 : (kind == 0) = false := by simpa using k0
              have q1 : (kind == 1) = false := by simpa using k1
              have q2 : (kind == 2) = false := by simpa using k2
              have q3 : (kind == 3) = false := by simpa using k3
              go_wp2
              go_ret
              exact ⟨ret_bool (by rw [HR.out, okActs, all_false_at _ _ k HLT.out HVV.out]; rfl), g2⟩
    · have hall : T.all okAct = true := by rw [← List.take_of_length_le (show T.length ≤ k by rw [HTL.out]; omega)]; exact H.out
      have hfin : R = decide ((L.length : Int) ≤ 20) := by rw [HR.out, okActs, hall, Bool.true_and, HTL.out]
      have HF := Lib.hid hfin
      clear hall hfin
      go_wp2
      go_ret
      exact ⟨ret_bool (by rw [HF.out]), hgr⟩
theorem sValidActs_any {lo hi : Nat} (v : Value) (L : List AR) (w : World) (hok : OkW w) (hv0 : AlR w lo hi v L) (hhi : hi ≤ w.heap.size) (hsm : ∀ r ∈ L, SmA r) :
    Calls Tryd.prog 32 #[v] w fun e w' => e = .returned (.bool (okActs (L.map (·.1)))) ∧ Gr w w' := by
  have h := sActs_any v L w hok hv0 hhi hsm
  generalize okActs (L.map (·.1)) = R at h
  go_enter Tryd.func32, Tryd.ntmps32
  go_wp2_with (go_at_call 69; refine h.mono ?_; rintro e w1 ⟨rfl, hb1⟩)
  go_ret
  exact ⟨rfl, hb1⟩
section
variable {H : Type} {enc : TypeId × Value → H} {W : World} {base : Nat} {v : Value} {d : DataW H} {p : List MemPlace}
theorem field_file {cs : List Value} {off n : Nat} {o : Option (DataW H × List MemPlace)} {base : Nat} {spare : Nat → Bool} {held : Bool} (hs : o.isSome = true) (h : DataW.trod enc Tryd.prog W base spare held n 27 ((cs.drop off).take (Program.cellsOf Tryd.prog 27)) = o) :
    ∃ z : FR, (cs.drop off).take 6 = eF z ∧ okF z.1 ∧ BodyR W 0 W.heap.size z := by
  obtain ⟨y, rfl⟩ := Option.isSome_iff_exists.1 hs
  obtain ⟨z, e, q⟩ := row_file h
  rw [show Program.cellsOf Tryd.prog 27 = 6 by kernel_rfl] at e
  exact ⟨z, e, q⟩
set_option maxRecDepth 100000 in
theorem row_act {n : Nat} {cs : List Value} {y : DataW H × List MemPlace} {base : Nat} {spare : Nat → Bool} {held : Bool} (h : DataW.trod enc Tryd.prog W base spare held n 101 cs = some y) : ∃ z : AR, cs = eA z ∧ (okA z.1 ∧ ABody W 0 W.heap.size z) := by
  obtain ⟨xs, n', _, _, hl, hxs, hf⟩ := DataW.trod_struct Tryd.underlying101 h
  have hl9 : cs.length = 9 := hl.trans (by kernel_rfl)
  obtain ⟨a, ha, qa⟩ := field_int (by kernel_rfl) Tryd.underlying3 (some_at hxs (by decide)) (hf 0 _ rfl)
  obtain ⟨f, hf1, qf, bf⟩ := field_file (some_at hxs (by decide)) (hf 1 _ rfl)
  obtain ⟨c, hc, qc⟩ := field_int (by kernel_rfl) Tryd.underlying3 (some_at hxs (by decide)) (hf 2 _ rfl)
  obtain ⟨d, hd, qd⟩ := field_string (by kernel_rfl) Tryd.underlying9 (some_at hxs (by decide)) (hf 3 _ rfl)
  obtain ⟨f, u⟩ := f
  refine ⟨(⟨a, f, c, d⟩, u), ?_, ⟨qa, qf, qc, qd⟩, bf⟩
  match cs, hl9 with
  | [x0, x1, x2, x3, x4, x5, x6, x7, x8], _ =>
    have ha : x0 = _ := Option.some.inj ha
    have hc : x7 = _ := Option.some.inj hc
    have hd : x8 = _ := Option.some.inj hd
    have hf1 : [x1, x2, x3, x4, x5, x6] = eF (f, u) := hf1
    simp only [eF, List.cons.injEq, and_true] at hf1
    obtain ⟨e1, e2, e3, e4, e5, e6⟩ := hf1
    rw [ha, hc, hd, e1, e2, e3, e4, e5, e6]; rfl
set_option maxRecDepth 100000 in
theorem open_arg_acts (hv : Value.okWide Tryd.prog W .any base 62 v) (h : DataW.Trod enc Tryd.prog W 0 (fun _ => true) true 62 v d p) (_hs : (DataW.weights Tryd.prog 62 d).all (fun x => decide (x ≤ reachBytes)) = true) :
    ∃ L : List AR, AlR W 0 W.heap.size v L ∧ ∀ s ∈ L, okA s.1 := by
  obtain ⟨a0, len0, cap0, rfl⟩ := okWide_slice Tryd.underlying62 hv
  obtain ⟨fuel, hf⟩ := h
  obtain ⟨v, e, L, h1, h2⟩ := open_rows (P := Tryd.prog) (k := 9) eA (fun z : AR => okA z.1 ∧ ABody W 0 W.heap.size z) Tryd.underlying62 (by kernel_rfl) (by decide) (fun n cs' y hy => row_act hy) hf
  rw [cells_slice] at e
  injection e with e
  subst e
  exact ⟨L, ⟨h1, fun r hr => (h2 r hr).2⟩, fun r hr => (h2 r hr).1⟩
end
set_option maxHeartbeats 3200000 in
theorem walk_FnExactValidActs (w : World) (hok : OkW w) (v : Value) (L : List AR) (hL : AlR w 0 w.heap.size v L ∧ ∀ s ∈ L, okA s.1) :
    Calls Tryd.prog 8 #[v] w fun e w' => e = .returned (.bool true) ∧ Below w.heap.size w w' := by
  obtain ⟨hv, hsz⟩ := hL
  go_enter Tryd.func8, Tryd.ntmps8
  go_wp2_with fail
  refine (szActS_any _ L _ _ hv (Nat.le_refl _) hsz (by omega) (by omega)).mono ?_
  rintro e w0 ⟨r, rfl, hr, hrl, hb0⟩
  by_cases h0 : r < 0
  · go_wp2
    go_ret
    exact ⟨rfl, hb0⟩
  · have htot := hr (by omega)
    have hlen : L.length ≤ 1048576 := by omega
    have hsz1 : ∀ s ∈ L, szA s.1 ≤ 1048576 := fun s hs => by have := totA_mem hs; omega
    have hbn : ∀ s ∈ L, s.1.file.body.length ≤ 1048576 := fun s hs => by have := hsz1 s hs; unfold szA szF at this; omega
    have hsmL : ∀ s ∈ L, SmA s := fun s hs => by
      have := hsz1 s hs
      unfold szA szF at this
      exact ⟨by omega, by omega, fun t ht => by have := totB_mem ht; omega, by omega⟩
    have hsm2 : ∀ M : List AR, M.map (·.1) = L.map (·.1) → ∀ s ∈ M, SmA s := fun M e s hs => by
      have : s.1 ∈ L.map (·.1) := by rw [← e]; exact List.mem_map_of_mem hs
      rw [List.mem_map] at this
      obtain ⟨s', hs', e'⟩ := this
      have := hsmL s' hs'
      unfold SmA at this ⊢
      rw [← e']; exact this
    obtain ⟨R, hR⟩ : ∃ R, okActs (L.map (·.1)) = R := ⟨_, rfl⟩
    have h1 : ∀ lo hi u (M : List AR) W, Gr w W → AlR W lo hi u M → hi ≤ W.heap.size → M.map (·.1) = L.map (·.1) → Calls Tryd.prog 32 #[u] W fun e w' => e = .returned (.bool R) ∧ Gr W w' := fun lo hi u M W g h h' e => by
      have := sValidActs_any u M W (hok.gr g) h h' (hsm2 M e)
      rwa [e, hR] at this
    have h2 : ∀ lo hi u (M : List AR) W, Gr w W → AlR W lo hi u M → hi ≤ W.heap.size → M.map (·.1) = L.map (·.1) → Calls Tryd.prog 31 #[u] W fun e w' => e = .returned (.bool R) ∧ Gr W w' := fun lo hi u M W g h h' e => by
      have := iActs_any u M W (hok.gr g) h h' (hsm2 M e)
      rwa [e, hR] at this
    have h3 := fun W (g : Gr w W) => toActS_own _ L W (hv.below g (Nat.le_refl _)) g.size hlen hbn
    have q2 : (R != R) = false := by simp
    have H1 := Lib.hid h1
    have H2 := Lib.hid h2
    have H3 := Lib.hid h3
    clear hr hrl htot hsz1 hbn hsmL hsm2 hR h1 h2 h3 hv hsz
    go_wp2_with fail
    refine (H3.out _ hb0).mono ?_
    rintro e w1 ⟨u1, rfl, M1, hM1, hu1, hb1⟩
    obtain ⟨a1, k1, e1, _, _⟩ := hu1.1.form
    subst e1
    have hg1 : Gr w w1 := Gr.tr hb0 hb1
    go_wp2_with fail
    refine (H1.out _ _ _ M1 _ hg1 hu1.reads (Nat.le_refl _) hM1).mono ?_
    rintro e w2 ⟨rfl, hb2⟩
    have hg2 : Gr w w2 := Gr.tr hg1 hb2
    clear hu1 hM1
    go_wp2_with fail
    refine (H3.out _ hg2).mono ?_
    rintro e w3 ⟨u3, rfl, M3, hM3, hu3, hb3⟩
    obtain ⟨a3, k3, e3, _, _⟩ := hu3.1.form
    subst e3
    have hg3 : Gr w w3 := Gr.tr hg2 hb3
    have rd3 := hu3.reads
    have HM3 := Lib.hid hM3
    clear hu3 hM3
    go_wp2_with fail
    refine (H2.out _ _ _ M3 _ hg3 rd3 (Nat.le_refl _) HM3.out).mono ?_
    rintro e w4 ⟨rfl, hb4⟩
    have hg4 : Gr w w4 := Gr.tr hg3 hb4
    have rd4 := rd3.below hb4 (Nat.le_refl _)
    have sz4 := hb4.size
    clear rd3
    go_wp2_with fail
    refine (H3.out _ hg4).mono ?_
    rintro e w5 ⟨u5, rfl, M5, hM5, hu5, hb5⟩
    obtain ⟨a5, k5, e5, _, _⟩ := hu5.1.form
    subst e5
    go_wp2_with fail
    refine (eqActS_any _ _ M3 M5 _ (rd4.below hb5 sz4) hu5.reads (HM3.out.trans hM5.symm) (Nat.le_trans sz4 hb5.size) (Nat.le_refl _)).mono ?_
    rintro e w6 ⟨rfl, hb6⟩
    go_wp2
    go_ret
    exact ⟨rfl, Gr.tr (Gr.tr hg4 hb5) hb6⟩
end Go.Proofs.YtomndnlpogikdaaDoor
