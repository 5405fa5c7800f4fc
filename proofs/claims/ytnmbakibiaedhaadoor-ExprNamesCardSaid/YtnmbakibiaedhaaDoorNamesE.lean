/- The law ExprNames, walked. -/
import Derived.Test.YtnmbakibiaedhaaDoorReadM
import Derived.Test.YtnmbakibiaedhaaDoorDecim
import Derived.Test.YtnmbakibiaedhaaDoorCutUp
import Derived.Test.YtnmbakibiaedhaaDoorPlainExpr5
import Derived.Test.YtnmbakibiaedhaaDoorShelfMc
import Derived.Test.YtnmbakibiaedhaaDoorExprLaid
import Derived.Maps.OwnSet
namespace Go.Proofs.YtnmbakibiaedhaaDoor
open Go.RowKit
set_option linter.unusedVariables false
set_option linter.unusedSimpArgs false
open Rd
open Ex (X levels)
theorem Name_none (w : World) : Calls Tryd.prog 17 #[.string (bstr [])] w fun e w' => e = .returned (.bool false) ∧ w = w' := by
  go_enter Tryd.func17, Tryd.ntmps17
  go_wp2_with fail
  go_ret
  exact ⟨rfl, rfl⟩
def isName : List UInt8 → Bool
  | [] => false
  | c :: _ => Lex.letter c.toNat
theorem Name_all (s : List UInt8) (w : World) : Calls Tryd.prog 17 #[.string (bstr s)] w fun e w' => e = .returned (.bool (isName s)) ∧ w = w' := by
  cases s with
  | nil => exact Name_none w
  | cons c r => exact Name_any c r w
theorem mapTurned_below {w w' : World} {b B : Nat} (h : w.mapTurned w' b) (hB : B ≤ b) : Below B w w' := by
  have hg := h.grown
  exact ⟨hg.os, hg.tape, hg.output, hg.size, fun k hk => hg.block k (by
    obtain ⟨es, clock, es', clock', hb, rfl⟩ := h
    have := (Array.getElem?_eq_some_iff.1 hb).1
    omega) (fun e => by injection e with e; omega)⟩
theorem nm_del {H : Type} (D : DataW H) (k s : List UInt8) (h : s ≠ k) : nm (D.del (.string k)) s = nm D s := by
  unfold nm
  rw [Maps.atKey_del_other (by intro e; injection e with e; exact h e)]
theorem bcat (t d : List UInt8) : bstr t ++ (bstr d ++ { data := #[32] }) = bstr (t ++ (d ++ [32])) := by
  rw [show ({ data := #[32] } : ByteArray) = bstr [32] from rfl, bstr_append, bstr_append]
set_option maxRecDepth 100000 in
set_option maxHeartbeats 2000000 in
theorem ExprNames_in {H : Type} (l nme : List UInt8) (M : Option Nat) (D : DataW H) (n : Nat) (w : World) (hB : Base w) (hN : NamesAt w (.map M) (nm D) n) (hM : MapIs w M D) (hn : n ≤ 9223372036854775807) (hsz : nme.length ≤ 140737488351232) :
    Calls Tryd.prog 4 #[.string (bstr l), .string (bstr nme), .map M] w fun e w' => e = .returned (.bool true) ∧ Below w.heap.size w w' := by
  have HR := Lib.hid (reckoned_any w hB)
  have HB := Lib.hid hB; have HN := Lib.hid hN; have HM := Lib.hid hM
  have HL := Lib.hid (fun w => long_any l w)
  have HC := Lib.hid (fun w => cutUp_any w)
  have HNM := Lib.hid (fun w => Name_all nme w)
  clear hB hN hM
  by_cases h900 : 900 < l.length
  · rw [decide_eq_true h900] at HL
    clear h900
    go_enter Tryd.func4, Tryd.ntmps4
    go_wp2_with fail
    refine HR.out.mono ?_
    rintro e w1 ⟨rfl, hb1⟩
    go_wp2_with fail
    refine (HC.out _ (HB.out.up hb1).mks).mono ?_
    rintro e w2 ⟨rfl, hb2⟩
    have hb2' := hb1.trans (hb2.mono hb1.size)
    go_wp2_with fail
    refine (HL.out _).mono ?_
    rintro e w3 ⟨rfl, rfl⟩
    go_wp2_with fail
    go_ret
    exact ⟨rfl, hb2'⟩
  rw [decide_eq_false h900] at HL
  by_cases h20 : 20 < n
  · have d1 : decide ((20 : Int) < (n : Int)) = true := decide_eq_true (by omega)
    clear h900
    go_enter Tryd.func4, Tryd.ntmps4
    go_wp2_with fail
    refine HR.out.mono ?_
    rintro e w1 ⟨rfl, hb1⟩
    go_wp2_with fail
    refine (HC.out _ (HB.out.up hb1).mks).mono ?_
    rintro e w2 ⟨rfl, hb2⟩
    have hb2' := hb1.trans (hb2.mono hb1.size)
    go_wp2_with fail
    refine (HL.out _).mono ?_
    rintro e w3 ⟨rfl, rfl⟩
    have hlen := HN.out.len w2 hb2'
    go_wp2_with fail
    go_ret
    exact ⟨rfl, hb2'⟩
  have d1 : decide ((20 : Int) < (n : Int)) = false := decide_eq_false (by omega)
  by_cases h12 : 12 < nme.length
  · have d2 : decide ((12 : Int) < (nme.length : Int)) = true := decide_eq_true (by omega)
    have d2n : decide (12 < nme.length) = true := decide_eq_true (by omega)
    clear h900
    go_enter Tryd.func4, Tryd.ntmps4
    go_wp2_with fail
    refine HR.out.mono ?_
    rintro e w1 ⟨rfl, hb1⟩
    go_wp2_with fail
    refine (HC.out _ (HB.out.up hb1).mks).mono ?_
    rintro e w2 ⟨rfl, hb2⟩
    have hb2' := hb1.trans (hb2.mono hb1.size)
    go_wp2_with fail
    refine (HL.out _).mono ?_
    rintro e w3 ⟨rfl, rfl⟩
    have hlen := HN.out.len w2 hb2'
    go_wp2_with fail
    go_ret
    exact ⟨rfl, hb2'⟩
  have d2 : decide ((12 : Int) < (nme.length : Int)) = false := decide_eq_false (by omega)
  have d2n : decide (12 < nme.length) = false := decide_eq_false (by omega)
  by_cases hnm : isName nme = false
  · rw [hnm] at HNM
    clear h900 h12
    go_enter Tryd.func4, Tryd.ntmps4
    go_wp2_with fail
    refine HR.out.mono ?_
    rintro e w1 ⟨rfl, hb1⟩
    go_wp2_with fail
    refine (HC.out _ (HB.out.up hb1).mks).mono ?_
    rintro e w2 ⟨rfl, hb2⟩
    have hb2' := hb1.trans (hb2.mono hb1.size)
    go_wp2_with fail
    refine (HL.out _).mono ?_
    rintro e w3 ⟨rfl, rfl⟩
    have hlen := HN.out.len w2 hb2'
    go_wp2_with fail
    refine (HNM.out _).mono ?_
    rintro e w3 ⟨rfl, rfl⟩
    go_wp2_with fail
    go_ret
    exact ⟨rfl, hb2'⟩
  have hnm' : isName nme = true := by simpa using hnm
  rw [hnm'] at HNM
  have hl3 : l.length ≤ 3000 := by omega
  have HLK := Lib.hid (fun W (hW : Below w.heap.size w W) => HN.out.look W hW nme (by omega))
  cases answer l hl3 with
  | bad hbad =>
    have HP := Lib.hid hbad
    clear hbad h900 hnm hnm' h12
    go_enter Tryd.func4, Tryd.ntmps4
    go_wp2_with fail
    refine HR.out.mono ?_
    rintro e w1 ⟨rfl, hb1⟩
    go_wp2_with fail
    refine (HC.out _ (HB.out.up hb1).mks).mono ?_
    rintro e w2 ⟨rfl, hb2⟩
    have hb2' := hb1.trans (hb2.mono hb1.size)
    have HB2 := Lib.hid hb2'
    go_wp2_with fail
    refine (HL.out _).mono ?_
    rintro e w3 ⟨rfl, rfl⟩
    have hlen := HN.out.len w2 hb2'
    have hlk := HLK.out w2 hb2'
    clear hb2 hb1 hb2'
    go_wp2_with fail
    refine (HNM.out _).mono ?_
    rintro e w3 ⟨rfl, rfl⟩
    go_wp2_with fail
    refine (HP.out w2 (HB.out.up HB2.out)).mono ?_
    rintro e w3 ⟨t, v, rfl, hb3⟩
    go_wp2_with fail
    go_ret
    exact ⟨rfl, HB2.out.trans (hb3.mono HB2.out.size)⟩
  | ok x T hT hp hok =>
    cases hv : nm D nme with
    | none =>
      have HP := Lib.hid hok
      rw [hv] at HLK
      simp only [Option.getD_none, Option.isSome_none] at HLK
      clear hok h900 hnm hnm' h12 hT hp hv
      go_enter Tryd.func4, Tryd.ntmps4
      go_wp2_with fail
      refine HR.out.mono ?_
      rintro e w1 ⟨rfl, hb1⟩
      go_wp2_with fail
      refine (HC.out _ (HB.out.up hb1).mks).mono ?_
      rintro e w2 ⟨rfl, hb2⟩
      have hb2' := hb1.trans (hb2.mono hb1.size)
      have HB2 := Lib.hid hb2'
      go_wp2_with fail
      refine (HL.out _).mono ?_
      rintro e w3 ⟨rfl, rfl⟩
      have hlen := HN.out.len w2 hb2'
      have hlk := HLK.out w2 hb2'
      clear hb2 hb1 hb2'
      go_wp2_with fail
      refine (HNM.out _).mono ?_
      rintro e w3 ⟨rfl, rfl⟩
      go_wp2_with fail
      refine (HP.out w2 (HB.out.up HB2.out)).mono ?_
      rintro e w3 ⟨b, rfl, hx3, hb3⟩
      have HF := Lib.hid (HB2.out.trans (hb3.mono HB2.out.size))
      clear hx3 hb3
      go_wp2_with fail
      go_ret
      exact ⟨rfl, HF.out⟩
    | some v =>
      rw [hv] at HLK
      simp only [Option.getD_some, Option.isSome_some] at HLK
      have hvr := HN.out.rng nme v hv
      unfold Ex.InR at hvr
      by_cases hneg : v < 0
      · have HP := Lib.hid hok
        clear hok h900 hnm hnm' h12 hT hp hv hvr
        go_enter Tryd.func4, Tryd.ntmps4
        go_wp2_with fail
        refine HR.out.mono ?_
        rintro e w1 ⟨rfl, hb1⟩
        go_wp2_with fail
        refine (HC.out _ (HB.out.up hb1).mks).mono ?_
        rintro e w2 ⟨rfl, hb2⟩
        have hb2' := hb1.trans (hb2.mono hb1.size)
        have HB2 := Lib.hid hb2'
        go_wp2_with fail
        refine (HL.out _).mono ?_
        rintro e w3 ⟨rfl, rfl⟩
        have hlen := HN.out.len w2 hb2'
        have hlk := HLK.out w2 hb2'
        clear hb2 hb1 hb2'
        go_wp2_with fail
        refine (HNM.out _).mono ?_
        rintro e w3 ⟨rfl, rfl⟩
        go_wp2_with fail
        refine (HP.out w2 (HB.out.up HB2.out)).mono ?_
        rintro e w3 ⟨b, rfl, hx3, hb3⟩
        have HF := Lib.hid (HB2.out.trans (hb3.mono HB2.out.size))
        clear hx3 hb3
        go_wp2_with fail
        go_ret
        exact ⟨rfl, HF.out⟩
      obtain ⟨m, rfl⟩ : ∃ m : Nat, v = (m : Int) := ⟨v.toNat, by omega⟩
      have hm63 : m < 9223372036854775808 := by omega
      obtain ⟨cn, rn, hcn, hln⟩ : ∃ cn rn, nme = cn :: rn ∧ Lex.letter cn.toNat = true := by
        cases hq : nme with
        | nil => rw [hq] at hnm'; cases hnm'
        | cons c r => rw [hq] at hnm'; exact ⟨c, r, rfl, hnm'⟩
      obtain ⟨T', y, hT', hsub, hpy⟩ := Ex.said_read (E' := (Ex.said nme m T).length) nme m hcn hln hm63 hT hp
      have htl := toks_le l.length l 0 T (Nat.le_refl _) hT
      have hfew := few_toks hl3 hT
      have hSl := Ex.said_length nme m (by
        have := wdt_le m
        unfold Num.dec
        rw [Digits.ds_length]
        exact this) T (fun t ht => by have := htl.2 t ht; omega)
      have hTl : T.length ≤ 900 := by omega
      have hdl : (Num.dec m).length ≤ 24 := by
        have := wdt_le m
        unfold Num.dec
        rw [Digits.ds_length]
        exact this
      have hpart : ∀ k, k ≤ T.length → (Ex.said nme m (T.take k)).length ≤ 925 * k := fun k hk => by
        have := Ex.said_length nme m hdl (T.take k) (fun t ht => by have := htl.2 t (List.mem_of_mem_take ht); omega)
        rw [List.length_take, Nat.min_eq_left hk] at this
        exact this
      obtain ⟨hf, hd, hpl⟩ := read_fine hT hp
      have hTT := hT
      have HT := Lib.hid hT; have HT' := Lib.hid hT'; have HPY := Lib.hid hpy
      have HSub := Lib.hid hsub; have HF := Lib.hid hf; have HV := Lib.hid hv; have HSL := Lib.hid hSl; have HPT := Lib.hid hpart
      have HP := Lib.hid hok
      have HCN := Lib.hid (And.intro hcn hln); have HNE := Lib.hid (show nme.length ≤ 12 by omega)
      have HLEX := Lib.hid (fun w (h : MarksAt w) => Lex_any l w hl3 h)
      have HDC := Lib.hid (fun w => decimal_any m w hm63)
      have hge : decide ((m : Int) < 0) = false := decide_eq_false (by omega)
      have HFEW := Lib.hid (fun t ht => Nat.le_trans (htl.2 t ht) (show l.length ≤ 900 by omega))
      have HDL := Lib.hid hdl
      clear hT hT' hpy hsub hf hv hSl hpart hok hcn hln hd hpl htl hfew hdl hTT h900 h12 hnm hnm' hneg hvr
      go_enter Tryd.func4, Tryd.ntmps4
      go_wp2_with fail
      refine HR.out.mono ?_
      rintro e w1 ⟨rfl, hb1⟩
      go_wp2_with fail
      refine (HC.out _ (HB.out.up hb1).mks).mono ?_
      rintro e w2 ⟨rfl, hb2⟩
      have hb2' := hb1.trans (hb2.mono hb1.size)
      have HB2 := Lib.hid hb2'
      go_wp2_with fail
      refine (HL.out _).mono ?_
      rintro e w3 ⟨rfl, rfl⟩
      have hlen := HN.out.len w2 hb2'
      have hlk := HLK.out w2 hb2'
      clear hb2 hb1 hb2'
      go_wp2_with fail
      refine (HNM.out _).mono ?_
      rintro e w3 ⟨rfl, rfl⟩
      go_wp2_with fail
      refine (HP.out w2 (HB.out.up HB2.out)).mono ?_
      rintro e w3 ⟨b, rfl, hx3, hb3⟩
      have HX3 := Lib.hid hx3
      have HB3 := Lib.hid (HB2.out.trans (hb3.mono HB2.out.size))
      clear hx3 hb3 hlen hlk
      go_wp2_with fail
      refine (HLEX.out w3 (HB.out.up HB3.out).mks).mono ?_
      rintro e w4 ⟨hb4, ⟨T0, a, cap, hT0, rfl, ho⟩ | ⟨hT0, _⟩⟩
      case inr => rw [HT.out] at hT0; cases hT0
      obtain rfl : T = T0 := Option.some.inj (HT.out.symm.trans hT0)
      have HRD := Lib.hid (ownTok ho)
      have HX4 := Lib.hid (IsX.grown (below_grown hb4 (some w2.heap.size)) x b HX3.out)
      have HB4 := Lib.hid (HB3.out.trans (hb4.mono HB3.out.size))
      clear hb4 hT0 ho
      go_wp2_with fail
      go_loopw [12, 13] (fun v12 v13 wr => ∃ (i : Nat) (t : List UInt8), i ≤ T.length ∧ v12 = .string (bstr t) ∧ v13 = .int .i64 i ∧ Hid (t = Ex.said nme m (T.take i)) ∧ Hid (Below w4.heap.size w4 wr)) (fun _ v13 _ => T.length - (intOf v13).toNat)
      case atStart => exact ⟨0, [], by omega, rfl, rfl, Lib.hid rfl, Lib.hid (Below.refl _ _)⟩
      case round =>
        obtain ⟨i, t, hi, rfl, rfl, HTE, HW⟩ := hrel
        by_cases hlt : i < T.length
        · obtain ⟨g, rfl, hg, hc1, hc2⟩ := (HRD.out.below HW.out (Nat.le_refl _)) i hlt
          have hki : (i : Int) < (T.length : Int) := by omega
          have htk : T.take (i + 1) = T.take i ++ [T.getD i ([], 0)] := by
            rw [List.take_succ_eq_append_getElem hlt, List.getD_eq_getElem?_getD, List.getElem?_eq_getElem hlt]; rfl
          have hsn := Ex.said_snoc nme m (T.take i) (T.getD i ([], 0))
          rw [← htk, ← HTE.out] at hsn
          have htl : t.length ≤ 900000 := by
            have := HPT.out i (by omega)
            rw [← HTE.out] at this
            omega
          have hkl : (T.getD i ([], 0)).1.length ≤ 900 := by
            rw [List.getD_eq_getElem?_getD, List.getElem?_eq_getElem hlt]
            exact HFEW.out _ (List.getElem_mem hlt)
          generalize (T.getD i ([], 0)).1 = tk at *
          generalize (T.getD i ([], 0)).2 = p at *
          have HSN := Lib.hid hsn
          clear hsn htk hc2
          by_cases heq : tk = nme
          · have heqb : (tk == nme) = true := by simpa using heq
            have heqd : decide (tk = nme) = true := by simpa using heq
            have hdc := HDC.out wr
            have hd24 := HDL.out
            have hsub : Ex.sub Num.dec nme m tk = Num.dec m := by unfold Ex.sub; rw [if_pos heq]
            rw [hsub] at HSN
            generalize Num.dec m = dn at *
            have HDCW := Lib.hid hdc
            have q1 : ¬ 9223372036854775807 < dn.length + 1 := by omega
            have q2 : ¬ 9223372036854775807 < t.length + (dn.length + 1) := by omega
            clear hsub hdc heq
            have hws := HW.out.size
            go_wp2_with fail
            refine HDCW.out.mono ?_
            rintro e w5 ⟨rfl, hb5⟩
            have HW5 := Lib.hid (HW.out.trans (hb5.mono hws))
            clear hb5
            go_wp2_with fail
            go_roundw
            case rel => exact ⟨i + 1, _, by omega, congrArg Value.string (bcat t dn), by go_num, Lib.hid HSN.out.symm, HW5⟩
            case measure => simp [intOf]; omega
          · have heqb : (tk == nme) = false := by simpa using heq
            have heqd : decide (tk = nme) = false := by simpa using heq
            have hsub : Ex.sub Num.dec nme m tk = tk := by unfold Ex.sub; rw [if_neg heq]
            rw [hsub] at HSN
            have q1 : ¬ 9223372036854775807 < tk.length + 1 := by omega
            have q2 : ¬ 9223372036854775807 < t.length + (tk.length + 1) := by omega
            clear hsub heq
            go_wp2_with fail
            go_roundw
            case rel => exact ⟨i + 1, _, by omega, congrArg Value.string (bcat t tk), by go_num, Lib.hid HSN.out.symm, HW⟩
            case measure => simp [intOf]; omega
        · obtain rfl : i = T.length := by omega
          have hd : decide ((T.length : Int) < (T.length : Int)) = false := by simp
          obtain ⟨S, hS⟩ : ∃ S, S = Ex.said nme m T := ⟨_, rfl⟩
          have hts := HTE.out
          rw [List.take_of_length_le (Nat.le_refl _), ← hS] at hts
          have hsl := HSL.out; have ht' := HT'.out; have hpy := HPY.out
          rw [← hS] at hsl ht' hpy
          subst hts
          have HB5 := Lib.hid (HB4.out.trans (HW.out.mono HB4.out.size))
          have HX5 := Lib.hid (IsX.grown (below_grown HW.out (some w2.heap.size)) x b HX4.out)
          have HSS := Lib.hid hS
          clear hS HTE
          by_cases hlong : 3000 < t.length
          · have HPL := Lib.hid (Parse_long t wr hlong (by omega))
            have d3 : decide ((3000 : Int) < (t.length : Int)) = true := decide_eq_true (by omega)
            have d3n : decide (3000 < t.length) = true := decide_eq_true hlong
            clear hlong hsl ht' hpy
            go_wp2_with fail
            refine HPL.out.mono ?_
            rintro e w5 ⟨rfl, hb5⟩
            have HB6 := Lib.hid (HB5.out.trans (hb5.mono HB5.out.size))
            clear hb5
            go_wp2_with fail
            go_ret
            exact ⟨rfl, HB6.out⟩
          · have ht3 : t.length ≤ 3000 := by omega
            have hpo := Parse_ok t T' y wr ht3 (HB.out.up HB5.out).mks (HB.out.up HB5.out).env ht' (few_toks ht3 ht') hpy
            have HPO := Lib.hid hpo
            have HFY := Lib.hid (read_fine ht' hpy).1
            clear hlong hsl ht' hpy hpo ht3
            go_wp2_with fail
            refine HPO.out.mono ?_
            rintro e w6 ⟨by_, rfl, hy6, hb6⟩
            have HX6 := Lib.hid (IsX.grown (below_grown hb6 (some w2.heap.size)) x b HX5.out)
            have HY6 := Lib.hid hy6
            have HB6 := Lib.hid (HB5.out.trans (hb6.mono HB5.out.size))
            clear hb6 hy6
            rcases HM.out with ⟨rfl, rfl⟩ | ⟨bm, nn, rfl, hnn, hown⟩
            · have := HV.out
              unfold nm at this
              split at this <;> cases this
            have hown6 := hown.kept (below_grown HB6.out none) (by simp)
            have hcl : Calls Tryd.prog 20 #[.map (some bm)] w6 _ := AnyW.maps_Clone_owns Tryd.maps_Clone_lays 9 (plainElem Tryd.prog 3) bm nn D w6 hown6
            have HCL := Lib.hid hcl
            have hkey : keyOf Tryd.prog 9 (.string (bstr nme)) = some (.string nme) := WideMaps.keyOf_string_mk Tryd.underlying9 (by rw [bstr_size]; unfold maxLen; omega)
            have HKEY := Lib.hid hkey
            clear hown hown6 hcl hkey
            go_wp2_with fail
            refine HCL.out.mono ?_
            rintro e w7 ⟨rfl, hown7, _, hb7⟩
            have hb7s := hb7.size
            have HB7 := Lib.hid hb7
            have HO7 := Lib.hid hown7
            clear hb7 hown7
            go_wp2_with (first | (at_delete; refine wpList_delete_own _ rfl _ _ 22 9 rfl 3 (Maps.string_keyed (P := Tryd.prog) Tryd.underlying9) Tryd.underlying22 _ w6.heap.size nn D rfl HO7.out _ _ rfl HKEY.out ?_; intro w8 hown8 hturn8) | fail)
            have hb8 : Below w6.heap.size w6 w8 := HB7.out.trans (mapTurned_below hturn8 (Nat.le_refl _))
            have HX8 := Lib.hid (IsX.grown (below_grown hb8 (some w2.heap.size)) x b HX6.out)
            have HY8 := Lib.hid (IsX.grown (below_grown hb8 (some wr.heap.size)) y by_ HY6.out)
            have HB8 := Lib.hid (HB6.out.trans (hb8.mono HB6.out.size))
            obtain ⟨k8, _, hN8⟩ := names_own hown8
            have HN8 := Lib.hid hN8
            have hEV : Ex.ev (nm (D.del (.string nme))) y = Ex.ev (nm D) x := Ex.Sub.ev (n := m) (nm := nme) HV.out (fun s hs => nm_del D nme s hs) HSub.out
            have HEV := Lib.hid hEV
            have HEX := Lib.hid (Eval_is (Eval_x w _ (nm D) n HN.out x HF.out) HB8.out HX8.out)
            clear hb8 hown8 hturn8 hN8 hEV hb7s
            refine HEX.out.mono ?_
            rintro e w9 ⟨v, ev, rfl, hev, hb9⟩
            have HB9 := Lib.hid (HB8.out.trans (hb9.mono HB8.out.size))
            have HV9 := Lib.hid hev
            have hey := Eval_is (Eval_x w8 _ (nm (D.del (.string nme))) k8 HN8.out y HFY.out) hb9 (IsX.grown (below_grown hb9 (some wr.heap.size)) y by_ HY8.out)
            rw [HEV.out] at hey
            have HEY := Lib.hid hey
            clear hey hev hb9
            go_wp2_with fail
            refine HEY.out.mono ?_
            rintro e w10 ⟨v2, ev2, rfl, hev2, hb10⟩
            have HB10 := Lib.hid (HB9.out.trans (hb10.mono HB9.out.size))
            have HV10 := Lib.hid (HV9.out.below hb10)
            obtain rfl := HV10.out.val hev2
            have HW10 := Lib.hid hev2
            clear hb10 hev2
            obtain ⟨c, hc⟩ : ∃ c, c = codeOf (Ex.ev (nm D) x) := ⟨_, rfl⟩
            have HCC := Lib.hid hc
            have ht1 := Tell_is HV10.out (HB.out.up HB10.out).env.er
            rw [← hc] at ht1
            have HT1 := Lib.hid ht1
            have hvv : (v == v) = true := by simp
            have hvd : decide (v = v) = true := by simp
            have hcc1 : ((c : Int) == (c : Int)) = true := by simp
            have hcc2 : decide ((c : Int) = (c : Int)) = true := by simp
            clear hc ht1
            go_wp2_with fail
            refine HT1.out.mono ?_
            rintro e w11 ⟨rfl, hb11⟩
            have HB11 := Lib.hid (HB10.out.trans (hb11.mono HB10.out.size))
            have ht2 := Tell_is (HW10.out.below hb11) (HB.out.up HB11.out).env.er
            rw [← HCC.out] at ht2
            have HT2 := Lib.hid ht2
            clear ht2 hb11
            go_wp2_with fail
            refine HT2.out.mono ?_
            rintro e w12 ⟨rfl, hb12⟩
            have HB12 := Lib.hid (HB11.out.trans (hb12.mono HB11.out.size))
            clear hb12
            go_wp2_with fail
            go_ret
            exact ⟨rfl, HB12.out⟩
theorem ExprNames_walk {H : Type} (s nme : ByteArray) (M : Option Nat) (D : DataW H) (n : Nat) (hs : s.size ≤ 140737488351232) (hs2 : nme.size ≤ 140737488351232) (w : World) (hB : Base w) (hN : NamesAt w (.map M) (nm D) n) (hn : n ≤ 9223372036854775807) (hM : MapIs w M D) :
    Calls Tryd.prog 4 #[.string s, .string nme, .map M] w fun e w' => e = .returned (.bool true) ∧ Below w.heap.size w w' := by
  obtain ⟨l, rfl⟩ : ∃ l, s = bstr l := ⟨_, eq_bstr s⟩
  obtain ⟨l2, rfl⟩ : ∃ l, nme = bstr l := ⟨_, eq_bstr nme⟩
  exact ExprNames_in l l2 M D n w hB hN hM hn (by rw [bstr_size] at hs2; exact hs2)
end Go.Proofs.YtnmbakibiaedhaaDoor
