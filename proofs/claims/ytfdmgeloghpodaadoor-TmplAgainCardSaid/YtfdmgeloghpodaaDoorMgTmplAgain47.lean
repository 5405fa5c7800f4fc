/- What the rows of this seat list of package-level variables: errors.errorType, lex.marks, expr.levels. -/
import Derived.Test.YtfdmgeloghpodaaDoorRows
import Derived.ChangeSame
import Derived.ChangeVars
import Derived.JoinedOf
import Derived.RowKitTokens
import Derived.LaidLaws
import Derived.LaidHandle
import Derived.Stop.Joined
import Derived.SevenTiedAt
import Derived.LaidSub
import Derived.ProofKit
import Derived.OpenShut
import Derived.SliceStrings
import Derived.Test.YtfdmgeloghpodaaDoorMgTmplAgain46
import Derived.Test.YtfdmgeloghpodaaDoorMgTmplAgain17
section
/- The law TmplAgain. -/
namespace Go.Proofs.YtfdmgeloghpodaaDoor
open Go.RowKit
set_option linter.unusedVariables false
set_option linter.unusedSimpArgs false
open Rd
/-- what is written of what was read, is read so -/
theorem read_again {s : List UInt8} {tys : List Tm.Ty} (hs : s.length ≤ 3000) (h : ReadT s tys) (hl : (Tm.prTs tys).length ≤ 3000) : ∃ l, Tm.SameTs tys l ∧ ReadT (Tm.prTs tys) l := by
  obtain ⟨T, h1, h2⟩ := h
  obtain ⟨_, hw, _⟩ := toks_lex hs h1
  have hf := h2.fine hw
  obtain ⟨T', h3, h4⟩ := toks_of (Tm.texts_prTs tys hf)
  obtain ⟨l, h5, h6⟩ := h2.back (E' := (Tm.prTs tys).length) hf T' h4
  exact ⟨l, h5, T', h3, h6⟩
set_option maxRecDepth 100000 in
set_option maxHeartbeats 8000000 in
theorem TmplAgain_in (s : List UInt8) (w : World) (hB : Base w) : Calls Tryd.prog 3 #[.string (bstr s)] w fun e w' => e = .returned (.bool true) ∧ Below w.heap.size w w' := by
  have HBX := Lib.hid (boxed_any w hB)
  have HLG := Lib.hid (fun W => long_any s W)
  have HB := Lib.hid hB
  clear hB
  go_enter Tryd.func3, Tryd.ntmps3
  go_wp2_with fail
  refine HBX.out.mono ?_
  rintro e w1 ⟨hb1, _, ab, cb, _, _, _, rfl⟩
  have HB1 := Lib.hid hb1
  clear hb1 HBX
  go_wp2_with fail
  refine (HLG.out _).mono ?_
  rintro e w1 ⟨rfl, rfl⟩
  by_cases h9 : 900 < s.length
  · have d9 : decide (900 < s.length) = true := decide_eq_true h9
    go_wp2_with fail
    go_ret
    exact ⟨rfl, HB1.out⟩
  · have d9 : decide (900 < s.length) = false := decide_eq_false h9
    have hs3 : s.length ≤ 3000 := by omega
    have HS3 := Lib.hid hs3
    have HS9 := Lib.hid (show s.length ≤ 900 by omega)
    have HPS := Lib.hid (parse_read s w1 hs3 (HB.out.up HB1.out))
    clear h9 hs3
    go_wp2_with fail
    refine HPS.out.mono ?_
    rintro e w2 ⟨hb2, ⟨tys, a, cap, vs, hm, rfl⟩ | ⟨hno, g, rfl⟩⟩
    · have HB2 := Lib.hid (HB1.out.trans (hb2.mono HB1.out.size))
      have HM := Lib.hid hm
      have HPR := Lib.hid (print_read hm HS3.out (HB.out.up HB2.out))
      have hlen := (hm.fine HS3.out).2.2.1
      have HFI := Lib.hid (hm.fine HS3.out).1
      have HRD := Lib.hid hm.rd
      obtain ⟨P, hP⟩ : ∃ P, P = Tm.prTs tys := ⟨_, rfl⟩
      rw [← hP] at hlen HPR
      have HP := Lib.hid hP
      have hPl : P.length ≤ 60000 := by have := HS9.out; omega
      clear hm hb2 hlen hP HPS HLG
      go_wp2_with fail
      refine HPR.out.mono ?_
      rintro e w3 ⟨rfl, hb3⟩
      have HB3 := Lib.hid (HB2.out.trans (hb3.mono HB2.out.size))
      have HM3 := Lib.hid (HM.out.up hb3)
      clear hb3 HPR
      go_wp2_with fail
      by_cases hl3 : P.length ≤ 3000
      · have HL3 := Lib.hid hl3
        have HPP := Lib.hid (parse_read P w3 hl3 (HB.out.up HB3.out))
        clear hl3 hPl
        refine HPP.out.mono ?_
        rintro e w4 ⟨hb4, ⟨tys2, a2, cap2, vs2, hm2, rfl⟩ | ⟨hno, g, rfl⟩⟩
        · have HB4 := Lib.hid (HB3.out.trans (hb4.mono HB3.out.size))
          have hsame : Tm.SameTs tys tys2 := by
            obtain ⟨l, h1, h2⟩ := read_again HS3.out HRD.out (by rw [← HP.out]; exact HL3.out)
            rw [← HP.out] at h2
            have := hm2.rd.det h2
            subst this
            exact h1
          have hpr2 : Tm.prTs tys2 = P := by rw [← Tm.same_prTs hsame, HP.out]
          have hck2 : Tm.chk [] tys2 = Tm.chk [] tys := Tm.chk_same hsame HFI.out
          have HM4 := Lib.hid (HM3.out.up hb4)
          have HN4 := Lib.hid hm2
          have HPR2 := Lib.hid hpr2; have HCK2 := Lib.hid hck2
          obtain ⟨n1, hn1⟩ : ∃ n1, n1 = tys.length := ⟨_, rfl⟩
          obtain ⟨n2, hn2⟩ : ∃ n2, n2 = tys2.length := ⟨_, rfl⟩
          rw [← hn1, ← hn2]
          have HN1 := Lib.hid hn1; have HN2 := Lib.hid hn2
          have hS0 : Hid (TysM w4 w1.heap.size s tys a cap vs) ∧ Hid (TysM w4 w3.heap.size P tys2 a2 cap2 vs2) ∧ Hid (Base w4) ∧ Hid (Below w.heap.size w w4) := ⟨HM4, HN4, Lib.hid (HB.out.up HB4.out), HB4⟩
          have hup : ∀ W W', (Hid (TysM W w1.heap.size s tys a cap vs) ∧ Hid (TysM W w3.heap.size P tys2 a2 cap2 vs2) ∧ Hid (Base W) ∧ Hid (Below w.heap.size w W)) → Below W.heap.size W W' → (Hid (TysM W' w1.heap.size s tys a cap vs) ∧ Hid (TysM W' w3.heap.size P tys2 a2 cap2 vs2) ∧ Hid (Base W') ∧ Hid (Below w.heap.size w W')) :=
            fun W W' h hb => ⟨Lib.hid (h.1.out.up hb), Lib.hid (h.2.1.out.up hb), Lib.hid (h.2.2.1.out.up hb), Lib.hid (h.2.2.2.out.trans (hb.mono h.2.2.2.out.size))⟩
          have HUP := Lib.hid hup
          have hS1 := hup w4 w4.drew hS0 (Below.refl _ _).drew
          have HPM := Lib.hid (fun W (h : Hid (TysM W w1.heap.size s tys a cap vs) ∧ Hid (TysM W w3.heap.size P tys2 a2 cap2 vs2) ∧ Hid (Base W) ∧ Hid (Below w.heap.size w W)) => (show Calls Tryd.prog 9 #[.slice a2 n2 cap2] W _ from by have := print_read h.2.1.out HL3.out h.2.2.1.out; rw [hpr2, ← hn2] at this; exact this))
          have HCL := Lib.hid (fun W (h : Hid (TysM W w1.heap.size s tys a cap vs) ∧ Hid (TysM W w3.heap.size P tys2 a2 cap2 vs2) ∧ Hid (Base W) ∧ Hid (Below w.heap.size w W)) => (show Calls Tryd.prog 10 #[.slice a n1 cap] W _ from by have := check_read h.1.out HS3.out; rw [← hn1] at this; exact this))
          have HCM := Lib.hid (fun W (h : Hid (TysM W w1.heap.size s tys a cap vs) ∧ Hid (TysM W w3.heap.size P tys2 a2 cap2 vs2) ∧ Hid (Base W) ∧ Hid (Below w.heap.size w W)) => (show Calls Tryd.prog 10 #[.slice a2 n2 cap2] W _ from by have := check_read h.2.1.out HL3.out; rw [hck2, ← hn2] at this; exact this))
          obtain ⟨o, ho⟩ : ∃ o, o = Tm.chk [] tys := ⟨_, rfl⟩
          rw [← ho] at HCL HCM
          unfold CheckOut at HCL HCM
          clear hb4 hm2 hsame hpr2 hck2 hn1 hn2 hup ho HPP
          go_wp2_with fail
          cases o with
          | none =>
            go_region_held3 (fun w1' => Hid (TysM w1' w1.heap.size s tys a cap vs) ∧ Hid (TysM w1' w3.heap.size P tys2 a2 cap2 vs2) ∧ Hid (Base w1') ∧ Hid (Below w.heap.size w w1'))
              (first
                | exact hS1
                | assumption)
              (first
                | (go_at_call 9; (with_reducible refine (HPM.out _ ?_).mono ?_); (next => (first | assumption | exact hS1)); (rintro e w9 ⟨rfl, hb9⟩); (have hS9 := HUP.out _ w9 (by first | assumption | exact hS1) hb9))
                | (go_at_call 10; (with_reducible refine (HCL.out _ ?_).mono ?_); (next => (first | assumption | exact hS1)); (rintro e w8 ⟨hb8, rfl⟩); (have hS8 := HUP.out _ w8 (by first | assumption | exact hS1) hb8))
                | (go_at_call 10; (with_reducible refine (HCM.out _ ?_).mono ?_); (next => (first | assumption | exact hS1)); (rintro e w7 ⟨hb7, rfl⟩); (have hS7 := HUP.out _ w7 (by first | assumption | exact hS1) hb7)))
            all_goals
              go_wp2_with fail
              go_ret
              exact ⟨rfl, by first | exact hS7.2.2.2.out | exact hS8.2.2.2.out⟩
          | some n =>
            go_region_held3 (fun w1' => Hid (TysM w1' w1.heap.size s tys a cap vs) ∧ Hid (TysM w1' w3.heap.size P tys2 a2 cap2 vs2) ∧ Hid (Base w1') ∧ Hid (Below w.heap.size w w1'))
              (first
                | exact hS1
                | assumption)
              (first
                | (go_at_call 9; (with_reducible refine (HPM.out _ ?_).mono ?_); (next => (first | assumption | exact hS1)); (rintro e w9 ⟨rfl, hb9⟩); (have hS9 := HUP.out _ w9 (by first | assumption | exact hS1) hb9))
                | (go_at_call 10; (with_reducible refine (HCL.out _ ?_).mono ?_); (next => (first | assumption | exact hS1)); (rintro e w8 ⟨hb8, g8, p8, rfl, _⟩); (have hS8 := HUP.out _ w8 (by first | assumption | exact hS1) hb8))
                | (go_at_call 10; (with_reducible refine (HCM.out _ ?_).mono ?_); (next => (first | assumption | exact hS1)); (rintro e w7 ⟨hb7, g7, p7, rfl, _⟩); (have hS7 := HUP.out _ w7 (by first | assumption | exact hS1) hb7)))
            all_goals
              go_wp2_with fail
              go_ret
              exact ⟨rfl, by first | exact hS7.2.2.2.out | exact hS8.2.2.2.out⟩
        · obtain ⟨l, h1, h2⟩ := read_again HS3.out HRD.out (by rw [← HP.out]; exact HL3.out)
          rw [← HP.out] at h2
          exact absurd h2 (hno l)
      · have HPL := Lib.hid (TParse_long P w3 (by omega) (by omega))
        have d3 : decide ((3000 : Int) < (P.length : Int)) = true := decide_eq_true (by omega)
        have d3n : decide (3000 < P.length) = true := decide_eq_true (by omega)
        clear hl3
        refine HPL.out.mono ?_
        rintro e w4 ⟨rfl, hb4⟩
        have HB4 := Lib.hid (HB3.out.trans (hb4.mono HB3.out.size))
        clear hb4 HPL
        go_wp2_with fail
        go_ret
        exact ⟨rfl, HB4.out⟩
    · have HB2 := Lib.hid (HB1.out.trans (hb2.mono HB1.out.size))
      clear hb2 hno HPS
      go_wp2_with fail
      go_ret
      exact ⟨rfl, HB2.out⟩
theorem TmplAgain_walk (s : ByteArray) (hs : s.size ≤ 140737488351232) (w : World) (hB : Base w) :
    Calls Tryd.prog 3 #[.string s] w fun e w' => e = .returned (.bool true) ∧ Below w.heap.size w w' := by
  obtain ⟨l, rfl⟩ : ∃ l, s = bstr l := ⟨_, eq_bstr s⟩
  exact TmplAgain_in l w hB
end Go.Proofs.YtfdmgeloghpodaaDoor
end
section
/- What the rows of this seat list of package-level variables: errors.errorType, lex.marks, expr.levels. -/
namespace Go.Proofs.YtfdmgeloghpodaaDoor
open Go.ChangeShapes Go.WideShapes Go.ChangeAt Go.RowKit
namespace ExprLaid
theorem gm : Tryd.prog.globalNamed "escritoire/lex.marks" = some 0 := by kernel_rfl
theorem gt : (Tryd.prog.globals[0]?).map (·.type) = some 94 := by kernel_rfl
theorem gl : Tryd.prog.globalNamed "escritoire/expr.levels" = some 2 := by kernel_rfl
theorem glt : (Tryd.prog.globals[2]?).map (·.type) = some 150 := by kernel_rfl
theorem cs1 : Tryd.prog.cellsOf 9 = 1 := by kernel_rfl
theorem cs18 : Tryd.prog.cellsOf 94 = 18 := by kernel_rfl
theorem cs1s : Tryd.prog.cellsOf 67 = 1 := by kernel_rfl
theorem cs3 : Tryd.prog.cellsOf 150 = 3 := by kernel_rfl
theorem et : Tryd.prog.globalNamed "errors.errorType" = some 1 := by kernel_rfl
theorem rt : (Tryd.prog.cutTypes.find? (·.1 == "internal/reflectlite.rtype")).map (·.2) = some 130 := by kernel_rfl
theorem oneRow : ((List.range 184).filter fun t => Tryd.prog.rowNamed t [101, 114, 114, 111, 114]) = [27] := by kernel_rfl
theorem size : Tryd.prog.types.size = 184 := by kernel_rfl
/-- the list -/
def laid : List (String × DataW Unit) := [("errors.errorType", Rows.laid_errors_errorType), ("escritoire/lex.marks", Rows.laid_escritoire_lex_marks), ("escritoire/expr.levels", Rows.laid_escritoire_expr_levels)]
theorem handle_of_laid {W : World} (h : laidMetH Tryd.prog laid W) : ErrType W := by
  have h' := (laidMetH_iff.1 h).2
  obtain ⟨name, u, ty, e1, e2, e3, e4, e5⟩ := h' ("errors.errorType", Rows.laid_errors_errorType) (by simp [laid, Rows.laid_errors_errorType, DataW.handleName?])
  have en : name = [101, 114, 114, 111, 114] := (Option.some.inj e1).symm
  subst en
  obtain rfl := Option.some.inj (rt.symm.trans e2)
  have hm : ty ∈ (List.range 184).filter fun t => Tryd.prog.rowNamed t [101, 114, 114, 111, 114] := List.mem_filter.2 ⟨List.mem_range.2 (by rw [← size]; exact e3), e4⟩
  rw [oneRow] at hm
  obtain rfl := List.mem_singleton.1 hm
  have hh : typeHandle Tryd.prog 27 = hdl 27 := by kernel_rfl
  rw [hh] at e5
  simpa [ErrType] using World.var?_cell et e5 0
theorem mapM_get {α β : Type} {f : α → Option β} : ∀ {l : List α} {r : List β}, l.mapM f = some r → ∀ (i : Nat) (h : i < l.length), ∃ y, r[i]? = some y ∧ f l[i] = some y := by
  intro l
  induction l with
  | nil => intro r _ i h; cases h
  | cons x xs ih =>
    intro r h i hi
    simp only [List.mapM_cons, Option.bind_eq_bind, Option.bind_eq_some_iff, Option.pure_def, Option.some.injEq] at h
    obtain ⟨y, h1, ys, h2, rfl⟩ := h
    cases i with
    | zero => exact ⟨y, rfl, h1⟩
    | succ i => exact ih h2 i (by simpa using hi)
set_option maxRecDepth 100000 in
theorem str_of_trod {H : Type} {enc : TypeId × Value → H} {W : World} {base : Nat} {sp : Nat → Bool} {held : Bool} {n : Nat} {c : Value} {bs : List UInt8} {ps : List MemPlace}
    (h : DataW.trod enc Tryd.prog W base sp held n 9 [c] = some (.lit (.string bs), ps)) : c = .string (bstr bs) := by
  cases n with
  | zero => simp [DataW.trod] at h
  | succ n =>
    rw [DataW.trod_step] at h
    unfold DataW.trodStep at h
    rw [Tryd.underlying9] at h
    cases c with
    | string s =>
      simp only at h
      split at h
      · simp only [Option.some.injEq, Prod.mk.injEq, DataW.lit.injEq, Lit.string.injEq] at h
        rw [← h.1]
        exact congrArg _ (eq_bstr s)
      · cases h
    | _ => cases h
/-- an array's element -/
theorem elem_of_trod {H : Type} {enc : TypeId × Value → H} {W : World} {base : Nat} {sp : Nat → Bool} {held : Bool} {n : Nat} {t e : TypeId} {m : Nat} {l : List Value} {ds : List (DataW H)} {ps : List MemPlace}
    (ht : Tryd.prog.underlying t = some (.array m e)) (hc : Tryd.prog.cellsOf e = 1) (hm : Tryd.prog.cellsOf t = m) (h : DataW.trod enc Tryd.prog W base sp held n t l = some (.agg ds, ps)) (j : Nat) (hj : j < m) :
    ∃ k d qs, l[j]? = some k ∧ ds[j]? = some d ∧ ∃ n', DataW.trod enc Tryd.prog W base sp held n' e [k] = some (d, qs) := by
  cases n with
  | zero => simp [DataW.trod] at h
  | succ n =>
    rw [DataW.trod_step] at h
    unfold DataW.trodStep at h
    rw [ht] at h
    simp only [hc, hm] at h
    split at h
    · rename_i hl
      simp only [Option.map_eq_some_iff] at h
      obtain ⟨xs, hm, hx⟩ := h
      obtain ⟨y, hy, hf⟩ := mapM_get hm j (by simpa using hj)
      simp only [Prod.mk.injEq, DataW.agg.injEq] at hx
      simp only [Nat.mul_one, List.getElem_range] at hf
      have hjl : j < l.length := by
        have h0 : l.length = m := hl
        omega
      have e3 : (l.drop j).take 1 = [l[j]] := by
        rw [List.drop_eq_getElem_cons hjl]; rfl
      rw [e3] at hf
      obtain ⟨y1, y2⟩ := y
      refine ⟨l[j], y1, y2, List.getElem?_eq_getElem hjl, ?_, _, hf⟩
      rw [← hx.1, List.getElem?_map, hy]; rfl
    · cases h
theorem marks_of_laid {W : World} (h : laidMetH Tryd.prog laid W) : MarksAt W := by
  have h' : laidMet Tryd.prog [("escritoire/lex.marks", Rows.laid_escritoire_lex_marks), ("escritoire/expr.levels", Rows.laid_escritoire_expr_levels)] W := (laidMetH_iff.1 h).1
  obtain ⟨ps, ⟨g, t, cs, fuel, p, q, hg, ht, hvar, hd, _, _⟩, _⟩ := h'
  obtain rfl := Option.some.inj (gm.symm.trans hg)
  obtain rfl := Option.some.inj (gt.symm.trans ht)
  intro j hj
  obtain ⟨l⟩ := cs
  rw [World.var?_cell hg hvar j]
  obtain ⟨k, d, qs, e1, e2, n', e3⟩ := elem_of_trod (m := 18) Tryd.underlying94 cs1 cs18 hd j hj
  have hd2 : ((Lex.marks.map fun m => (DataW.lit (.string m) : DataW Unit))[j]?) = some d := e2
  rw [List.getElem?_map] at hd2
  have e4 : Lex.marks[j]? = some (Lex.marks.getD j []) := by
    rw [List.getD_eq_getElem?_getD, List.getElem?_eq_getElem (by exact hj)]; rfl
  rw [e4] at hd2
  have hd3 := Option.some.inj hd2
  subst hd3
  have := str_of_trod e3
  subst this
  simpa using e1
/-- a slice of strings -/
theorem strs_of {H : Type} {enc : TypeId × Value → H} {W : World} {base : Nat} {sp : Nat → Bool} {held : Bool} {n : Nat} {v : Value} {L : List (List UInt8)} {ps : List MemPlace} (hL : L ≠ [])
    (h : DataW.trod enc Tryd.prog W base sp held n 67 [v] = some (.slice (L.map fun s => .lit (.string s)) [], ps)) : ∃ (a : Addr) (cap : Nat), v = .slice (some a) L.length cap ∧ a.block < W.heap.size ∧ ∀ j, j < L.length → W.cell? (a.add j) = some (.string (bstr (L.getD j []))) := by
  rcases open_strings Tryd.underlying67 Tryd.underlying9 cs1 h with ⟨_, h2⟩ | ⟨a, len, cap, ss, h1, _, hlc, _, hss, hx, hcell, _⟩
  · cases h2
  · obtain rfl := List.cons.inj h1 |>.1
    simp only [Prod.mk.injEq, DataW.slice.injEq] at hx
    have hx1 : (L.map fun s => (DataW.lit (.string s) : DataW H)) = strs (ss.take len) := hx.1.1
    have hlen : L.length = (ss.take len).length := by
      have := congrArg List.length hx1
      simpa [strs] using this
    have hls : len ≤ ss.length := by rw [hss]; split <;> omega
    have hl2 : L.length = len := by rw [hlen, List.length_take]; omega
    have hget : ∀ j, j < L.length → ss.getD j ByteArray.empty = bstr (L.getD j []) := by
      intro j hj
      have e1 : (L.map fun s => (DataW.lit (.string s) : DataW H))[j]? = (strs (ss.take len))[j]? := by rw [hx1]
      have hjs : j < ss.length := by omega
      rw [List.getElem?_map, List.getElem?_eq_getElem hj, strs, List.getElem?_map, List.getElem?_take_of_lt (by omega), List.getElem?_eq_getElem hjs] at e1
      simp only [Option.map_some, Option.some.injEq, DataW.lit.injEq, Lit.string.injEq] at e1
      rw [List.getD_eq_getElem?_getD, List.getElem?_eq_getElem hjs, List.getD_eq_getElem?_getD, List.getElem?_eq_getElem hj]
      simp only [Option.getD_some]
      rw [e1]
      exact eq_bstr _
    have hc : ∀ j, j < L.length → W.cell? (a.add j) = some (.string (bstr (L.getD j []))) := fun j hj => by
      rw [hcell j (by omega), hget j hj]
    have hpos : 0 < L.length := List.length_pos_iff.2 hL
    refine ⟨a, cap, by rw [hl2], ?_, hc⟩
    have := World.block_lt_of_cell? W _ (hc 0 hpos)
    rwa [Addr.add_block] at this
theorem levels_of_laid {W : World} (h : laidMetH Tryd.prog laid W) : Rd.LevelsAt W W.heap.size := by
  have h' : laidMet Tryd.prog [("escritoire/lex.marks", Rows.laid_escritoire_lex_marks), ("escritoire/expr.levels", Rows.laid_escritoire_expr_levels)] W := (laidMetH_iff.1 h).1
  obtain ⟨ps, ⟨g, t, cs, fuel, p, q, hg, ht, hvar, hd, hrest, _⟩, _⟩ := h'
  obtain ⟨g2, t2, cs2, fuel2, p2, q2, hg2, ht2, hvar2, hd2, _, _⟩ := hrest
  obtain rfl := Option.some.inj (gl.symm.trans hg2)
  obtain rfl := Option.some.inj (glt.symm.trans ht2)
  obtain ⟨l⟩ := cs2
  have key : ∀ k, k < 3 → ∃ (a : Addr) (cap : Nat), W.cell? ⟨2, k, none⟩ = some (.slice (some a) (Ex.levels k).length cap) ∧ a.block < W.heap.size ∧ ∀ j, j < (Ex.levels k).length → W.cell? (a.add j) = some (.string (bstr ((Ex.levels k).getD j []))) := by
    intro k hk
    obtain ⟨v, d, qs, e1, e2, n', e3⟩ := elem_of_trod (m := 3) Tryd.underlying150 cs1s cs3 hd2 k hk
    have hd3 : d = .slice ((Ex.levels k).map fun s => .lit (.string s)) [] := by
      rcases (by omega : k = 0 ∨ k = 1 ∨ k = 2) with rfl | rfl | rfl
      · exact (Option.some.inj e2).symm
      · exact (Option.some.inj e2).symm
      · exact (Option.some.inj e2).symm
    rw [hd3] at e3
    have hne : Ex.levels k ≠ [] := by
      rcases (by omega : k = 0 ∨ k = 1 ∨ k = 2) with rfl | rfl | rfl <;> simp [Ex.levels]
    obtain ⟨a, cap, rfl, hb, hc⟩ := strs_of hne e3
    refine ⟨a, cap, ?_, hb, hc⟩
    rw [World.var?_cell hg2 hvar2 k]
    simpa using e1
  obtain ⟨a, cap, hc0, _⟩ := key 0 (by omega)
  exact ⟨World.block_lt_of_cell? W _ hc0, key⟩
theorem base_of_laid {W : World} (h : laidMetH Tryd.prog laid W) : Base W :=
  ⟨⟨levels_of_laid h, handle_of_laid h, (handle_of_laid h).lt⟩, marks_of_laid h⟩
/-- a world that fits, where a variable bears a reference -/
theorem witness_ref {H : Type} {enc : TypeId × Value → H} {C : Checked} {os : Os} {f : FuncId} {fn : Func} {s : ChangeSpec} {conds : List PathCond} {apart : Bool} {X : World → Array Value → Prop} (w0 : World) (args : Array Value) (fuel : Nat) (hos : w0.os = os)
    (hv : (w0.forCall (fun _ _ => 0) ⟨#[], args, []⟩).variablesRefB C.prog = true)
    (hr : ((w0.forCall (fun _ _ => 0) ⟨#[], args, []⟩).heap.toList.drop C.prog.globals.size).take ((begin C.prog (fun _ _ => 0) default).world.heap.size - C.prog.globals.size) = (begin C.prog (fun _ _ => 0) default).world.heap.toList.drop C.prog.globals.size)
    (hok : Input.okWideB C.prog (w0.forCall (fun _ _ => 0) ⟨#[], args, []⟩) f ⟨#[], args, []⟩ = true)
    (hpre : s.preB enc C.prog fn conds apart (w0.forCall (fun _ _ => 0) ⟨#[], args, []⟩).memory args fuel = true)
    (hsz : s.sizedB enc C.prog fn apart (w0.forCall (fun _ _ => 0) ⟨#[], args, []⟩).memory args fuel = true)
    (hx : X (w0.forCall (fun _ _ => 0) ⟨#[], args, []⟩).memory args) :
    ∃ (w : World) (tape : Tape) (i : Input), w.os = os ∧ (w.forCall tape i).Shaped C.prog ∧ i.vars = [] ∧ Input.okWide C.prog (w.forCall tape i) .any w.heap.size f i ∧
      ((s.pre enc C.prog fn conds apart (w.forCall tape i).memory i.args ∧ X (w.forCall tape i).memory i.args) ∧ sizedMet enc C.prog fn (OpenSpec.ofChange s) apart (w.forCall tape i).memory i.args) ∧ ({ modest := false } : Assume).holds C.prog (lone (Frame.enter C.prog f i.args .normal) [] (w.forCall tape i)) :=
  ⟨w0, fun _ _ => 0, ⟨#[], args, []⟩, hos, World.shaped_of_RefB hv hr, (Input.okWide_of_okWideB (base := 0) hok).1, (Input.okWide_of_okWideB hok).2, ⟨⟨ChangeSpec.pre_of_preB hpre, hx⟩, sizedMet_of_sizedB hsz⟩, by
    simp only [Assume.holds]
    exact ⟨by simp, by simp, fun h => by simp at h, by simp, by simp⟩⟩
noncomputable def laidWorld (os : Os) : World :=
  let w0 := World.holding Tryd.prog os ⟨#[], #[], []⟩
  let put (h : Array Obj) (g : Nat) (cs : Array Value) : Array Obj := h.modify g fun
    | .cells _ t frozen => .cells cs t frozen
    | o => o
  let n := w0.heap.size
  let h1 := put w0.heap 0 marksV
  let h2 := put h1 1 #[.iface 130 (.agg #[hdl 27])]
  let h3 := put h2 2 #[.slice (some ⟨n, 0, none⟩) 4 4, .slice (some ⟨n + 1, 0, none⟩) 3 3, .slice (some ⟨n + 2, 0, none⟩) 2 2]
  let h4 := h3.push (.cells #[.string (bstr [61, 61]), .string (bstr [33, 61]), .string (bstr [60]), .string (bstr [62])] 9 (0, 0))
  let h5 := h4.push (.cells #[.string (bstr [43]), .string (bstr [45]), .string (bstr [124])] 9 (0, 0))
  let h6 := h5.push (.cells #[.string (bstr [42]), .string (bstr [38])] 9 (0, 0))
  { w0 with heap := h6 }
theorem laidWorld_met (os : Os) (args : Array Value) : laidMetH Tryd.prog laid ((laidWorld os).forCall (fun _ _ => 0) ⟨#[], args, []⟩).memory :=
  laidMetH_of_parts (laidMet_of_run' 8 (by kernel_rfl) (by kernel_rfl)) (by kernel_rfl)
end ExprLaid
end Go.Proofs.YtfdmgeloghpodaaDoor
end
