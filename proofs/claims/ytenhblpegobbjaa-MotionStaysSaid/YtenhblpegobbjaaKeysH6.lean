/- The contract of keys.Parse: the walk (under way). -/
import Derived.Test.YtenhblpegobbjaaChecked
import Derived.Test.YtenhblpegobbjaaOwn
import Derived.Test.YtenhblpegobbjaaKeysG2
import Derived.Deep.DeepCutAuto
import Derived.Deep.CutBlock
namespace Go.Proofs.Ytenhblpegobbjaa
open Go.RowKit
set_option linter.unusedVariables false
set_option linter.unusedSimpArgs false
set_option maxRecDepth 100000 in
set_option maxHeartbeats 4000000 in
theorem Parse_c6 (s : ByteArray) (w : World) (hs : s.size ≤ 1000) (hcls : Keys.cls s.data.toList = 4) (hw : (Keys.parse s.data.toList).2.2 = 2) :
    Calls Try.prog 24 #[.string s] w (ParseOut w s) := by
  have hs9 : s.size ≤ 9223372036854775807 := by omega
  have HV := Lib.hid hcls; clear hcls
  have HW := Lib.hid hw; clear hw
  obtain ⟨B, hB⟩ : ∃ B, B = w.heap.size := ⟨_, rfl⟩
  go_enter Try.func24, Try.ntmps24
  go_upto_region 4 with fail
  go_cut [1, 2, 5, 6, 7, 8] from 12 to 15 (fun v1 v2 v5 v6 v7 v8 wr => v8 = .bool true ∧ v1 = .pointer (some ⟨B, 0, none⟩) ∧ v2 = .pointer (some ⟨B + 1, 0, none⟩) ∧ v5 = .pointer (some ⟨B + 3, 0, none⟩) ∧ v6 = .pointer (some ⟨B + 4, 0, none⟩) ∧ v7 = .func (.func 56) #[] #[.pointer (some ⟨B, 0, none⟩), .pointer (some ⟨B + 3, 0, none⟩)] ∧ Hid (PSt w B wr s s.data.toList false (cmd5 0 0 0 0 ByteArray.empty)))
  case first =>
    go_wp2_with fail
    go_meet
    subst hB
    exact ⟨rfl, rfl, rfl, rfl, rfl, rfl, Lib.hid (PSt.start w s)⟩
  case rest =>
    have HB := Lib.hid hB; clear hB
    obtain ⟨rfl, rfl, rfl, rfl, rfl, rfl, HP⟩ := hcut
    have hp := HP.out
    have cp := hp.ptr.cell0 0 (by simp)
    obtain ⟨s', hs', hr⟩ := hp.rd
    have cr := hr.cell0 0 (by simp)
    simp only [List.getElem_cons_zero] at cp cr
    obtain rfl : s' = s := ByteArray.ext (Array.ext' hs')
    clear hr hs'
    obtain ⟨b34, hb34⟩ : ∃ b : Bool, b = (s'.data.toList.head? == some 34) := ⟨_, rfl⟩
    have HB34 := Lib.hid hb34; clear hb34
    clear hp
    go_upto_region 5 with fail
    go_cut [28] from 16 to 28 (fun v wr => v = .bool b34 ∧ wr = wc)
    case first =>
      have hb := HB34.out
      cases hl : s'.data.toList with
      | nil =>
        have hemp : s'.toList.isEmpty = true := by rw [ByteArray.toList_eq, hl]; rfl
        rw [hl] at hb
        have hb' : b34 = false := hb
        clear hl hb HP
        go_wp2_with fail
        go_meet
        exact ⟨by rw [hb'], rfl⟩
      | cons c l =>
        have hemp : s'.toList.isEmpty = false := by rw [ByteArray.toList_eq, hl]; rfl
        have hsz : 0 < s'.size := by have := data_length s'; rw [hl] at this; simp at this; omega
        have hszI : (0 : Int) < (s'.size : Int) := by omega
        have h0 : s'[0] = c := by rw [byteAt s' 0 hsz, hl]; rfl
        rw [hl] at hb
        clear hl HP
        by_cases hc34 : c = 34
        · subst hc34
          have hb' : b34 = true := hb
          have he : ((s'[0].toNat : Int) == 34) = true := by rw [h0]; rfl
          clear hb h0
          go_wp2_with fail
          go_meet
          exact ⟨by rw [hb'], rfl⟩
        · have hb' : b34 = false := by rw [hb]; simpa using hc34
          have he : ((s'[0].toNat : Int) == 34) = false := by
            rw [beq_eq_false_iff_ne, h0]
            intro h
            exact hc34 (UInt8.toNat_inj.mp (by show c.toNat = 34; omega))
          clear hb h0
          go_wp2_with fail
          go_meet
          exact ⟨by rw [hb'], rfl⟩
    case rest =>
      obtain ⟨rfl, rfl⟩ := hcut
      go_upto_if 28 with fail
      go_cut [8, 9] from 28 to 69 (fun v8 v9 wr => ∃ (reg : Nat) (l : List UInt8), v8 = .bool true ∧ Hid (PSt w B wr s' l false (cmd5 reg 0 0 0 ByteArray.empty)) ∧ Hid (Keys.parse s'.data.toList = Keys.numbered reg l) ∧ Hid (l.length ≤ s'.size) ∧ Hid (Keys.cls s'.data.toList = Keys.clsNum l))
      case first =>
        have hb34 := HB34.out
        cases b34 with
        | false =>
          have hparse : Keys.parse s'.data.toList = Keys.numbered 0 s'.data.toList := by
            rw [Keys.parse_eq, if_neg]
            intro h
            rw [h] at hb34
            exact absurd hb34 (by decide)
          have hne : s'.data.toList.head? ≠ some 34 := by
            intro h
            rw [h] at hb34
            exact absurd hb34 (by decide)
          have HCN := Lib.hid (Keys.cls_plain _ hne); clear hne
          have HPARSE := Lib.hid hparse; clear hparse hb34
          go_wp2_with fail
          go_meet
          exact ⟨0, s'.data.toList, rfl, HP, HPARSE, Lib.hid (by simp), HCN⟩
        | true =>
          have hhead : s'.data.toList.head? = some 34 := by
            have := hb34.symm
            rwa [beq_iff_eq] at this
          obtain ⟨l, hl⟩ : ∃ l, s'.data.toList = 34 :: l := by
            cases h : s'.data.toList with
            | nil => rw [h] at hhead; simp at hhead
            | cons c l => rw [h] at hhead; simp at hhead; subst hhead; exact ⟨l, rfl⟩
          have hlen : s'.size = l.length + 1 := by have := data_length s'; rw [hl] at this; simpa using this.symm
          have hparse : Keys.parse s'.data.toList = Keys.quoted l := by rw [hl, Keys.parse_quoted]
          have HCL : Hid (Keys.cls s'.data.toList = Keys.clsQuoted l) := Lib.hid (by rw [hl, Keys.cls_quoted])
          have hx := extract_one s' 34 l hl
          have HX := Lib.hid hx; clear hx
          have HPARSE := Lib.hid hparse; clear hparse hb34 hhead
          have HLL := Lib.hid hl; clear hl
          have hszI2 : (1 : Int) ≤ (s'.size : Int) := by omega
          have HLEN := Lib.hid hlen; clear hlen
          obtain ⟨s2, hs2, hr⟩ := HP.out.rd
          obtain rfl : s2 = s' := ByteArray.ext (Array.ext' hs2)
          have cf := hr.frozen0 0 (by simp)
          have HRR := Lib.hid hr; clear hr hs2
          go_wp2_with fail
          go_still_tail 8, (by kernel_rfl)
          change wpList _ _ _ _ _ wc.drew
          go_wp2_with fail
          have hp1 : PSt w B (wc.setCell ⟨B + 2, 0, none⟩ (.string (s2.extract 1 s2.size))).drew s2 l false _ := HP.out.read ⟨_, HX.out, (HRR.out.set0 0 (by simp) _).drew⟩ (grown_drewN (grown_set (grown_refl wc _) rfl _) 1)
          generalize (wc.setCell ⟨B + 2, 0, none⟩ (.string (s2.extract 1 s2.size))).drew = w1 at *
          have HP1 := Lib.hid hp1; clear hp1
          clear cp cr HRR cf HX
          have cp := HP1.out.ptr.cell0 0 (by simp)
          simp only [List.getElem_cons_zero] at cp
          cases l with
          | nil =>
            exact absurd (HV.out.symm.trans (HCL.out)) (by decide)
          | cons r l =>
            with_reducible refine (next_cons (B + 2) r l false _ HP1.out.rd).mono ?_
            rintro e w2 ⟨rfl, hr2, hg2⟩
            have hp2 := HP1.out.read hr2 hg2
            have HP2 := Lib.hid hp2; clear hp2 hr2 hg2
            have c0 := HP2.out.cmd.cell0 0 (by simp [cmd5])
            have f0 := HP2.out.cmd.frozen0 0 (by simp [cmd5])
            simp only [cmd5, List.getElem_cons_zero] at c0
            have hp3 := HP2.out.put 0 (by simp [cmd5]) (.int .u8 (r.toNat : Int))
            have HP3 := Lib.hid hp3; clear hp3
            have hx8 := u8_or_nat r.toNat 32 (by have := UInt8.toNat_lt r; omega) (by decide)
            rw [show ((32 : Nat) : Int) = 32 from rfl, show (r.toNat ||| 32) = (r ||| 32).toNat from rfl] at hx8
            have hok : Keys.regOk r = ((decide (97 ≤ (r ||| 32).toNat) && decide ((r ||| 32).toNat ≤ 122)) || (decide (49 ≤ r.toNat) && decide (r.toNat ≤ 57))) := rfl
            generalize (r ||| 32).toNat = X at *
            have HR : Hid (r.toNat = r.toNat) := Lib.hid rfl
            by_cases h1 : 97 ≤ X ∧ X ≤ 122
            case' pos =>
              have a1 := h1.1
              have a2 := h1.2
              have hyes : Keys.regOk r = true := by rw [hok, decide_eq_true a1, decide_eq_true a2]; rfl
              have HYES := Lib.hid hyes
              clear h1 hok hyes
            case' neg =>
              by_cases h2 : 49 ≤ r.toNat ∧ r.toNat ≤ 57
              case' pos =>
                have b1 := h2.1
                have b2 := h2.2
                have hyes : Keys.regOk r = true := by rw [hok, decide_eq_true b1, decide_eq_true b2]; simp
                have HYES := Lib.hid hyes
                have h3 : X < 97 ∨ 122 < X := by omega
                clear h1 h2 hok hyes
                rcases h3 with h3 | h3
              case' neg =>
                have hno : Keys.regOk r = false := by
                  rw [hok]
                  simp only [Bool.or_eq_false_iff, Bool.and_eq_false_iff, decide_eq_false_iff_not]
                  omega
                have HNO := Lib.hid hno
                have h3 : X < 97 ∨ 122 < X := by omega
                have h4 : r.toNat < 49 ∨ 57 < r.toNat := by omega
                clear h1 h2 hok hno
                rcases h3 with h3 | h3 <;> rcases h4 with h4 | h4
            all_goals
              first
              | have hno := HNO.out
                have hc1 := HCL.out.symm.trans HV.out
                unfold Keys.clsQuoted at hc1
                simp only at hc1
                rw [if_neg (by rw [hno]; decide)] at hc1
                exact absurd hc1 (by decide)
              | have hyes := HYES.out
                have HCN : Hid (Keys.cls s2.data.toList = Keys.clsNum l) := Lib.hid (by rw [HCL.out]; unfold Keys.clsQuoted; simp only; rw [if_pos hyes])
                go_wp2_with fail
                go_meet
                exact ⟨r.toNat, l, rfl, HP3, Lib.hid (by rw [HPARSE.out]; unfold Keys.quoted; simp only; rw [if_pos HYES.out]), Lib.hid (by have := HLEN.out; simp only [List.length_cons] at this; omega), HCN⟩
      case rest =>
        obtain ⟨reg, l, rfl, HP2, HPARSE, HLEN, HCN⟩ := hcut
        clear HP HB34 cp cr
        have hcls : Keys.cls s'.data.toList = Keys.clsOpped (Keys.cnt l 0).2 := HCN.out
        have HCO := Lib.hid hcls; clear hcls HCN
        have hlen := HLEN.out
        have cp := HP2.out.ptr.cell0 0 (by simp)
        simp only [List.getElem_cons_zero] at cp
        have hrd := HP2.out.rd
        have hl10 : l.length ≤ 1000 := by omega
        have hcl := Keys.cnt_le l 0 (by decide)
        have hcn := Keys.cnt_len l 0
        go_wp2_with fail
        with_reducible refine (count_any (B + 2) l false _ hrd hl10).mono ?_
        clear hrd
        rintro e w1 ⟨rfl, hr1, hg1⟩
        have hp3 := HP2.out.read hr1 hg1
        have HP3 := Lib.hid hp3; clear hp3 hr1 hg1 cp
        have hparse : Keys.parse s'.data.toList = Keys.opped reg (Keys.cnt l 0).1 (Keys.cnt l 0).2 := HPARSE.out
        have HPA := Lib.hid hparse; clear hparse HPARSE HP2
        generalize (Keys.cnt l 0).1 = n at *
        generalize (Keys.cnt l 0).2 = l2 at *
        have cp := HP3.out.ptr.cell0 0 (by simp)
        have c1 := HP3.out.cmd.cell0 1 (by simp [cmd5])
        have f1 := HP3.out.cmd.frozen0 1 (by simp [cmd5])
        have c2 := HP3.out.cmd.cell0 2 (by simp [cmd5])
        have f2 := HP3.out.cmd.frozen0 2 (by simp [cmd5])
        simp only [cmd5, List.getElem_cons_zero, List.getElem_cons_succ] at c1 c2 cp
        have hp4 := HP3.out.put 1 (by simp [cmd5]) (.int .i64 (n : Int))
        have HP4 := Lib.hid hp4; clear hp4
        have hlen2 : l2.length ≤ s'.size := by omega
        clear hlen hl10 hcn HLEN
        go_wp2_with fail
        cases l2 with
        | nil =>
          exact absurd (HV.out.symm.trans (HCO.out)) (by decide)
        | cons op l3 =>
          with_reducible refine (next_cons (B + 2) op l3 false _ HP4.out.rd).mono ?_
          rintro e w2 ⟨rfl, hr2, hg2⟩
          have hp5 : PSt w B w2 s' l3 false (cmd5 reg n 0 0 ByteArray.empty) := HP4.out.read hr2 hg2
          have HP5 := Lib.hid hp5; clear hp5 hr2 hg2 HP3 HP4 cp c1 f1 c2 f2
          have c2 := HP5.out.cmd.cell0 2 (by simp [cmd5])
          have f2 := HP5.out.cmd.frozen0 2 (by simp [cmd5])
          have cp := HP5.out.ptr.cell0 0 (by simp)
          simp only [cmd5, List.getElem_cons_zero, List.getElem_cons_succ] at c2 cp
          have hp6 : PSt w B (w2.setCell ⟨B + 4, 2, none⟩ (.int .u8 (op.toNat : Int))) s' l3 false (cmd5 reg n op.toNat 0 ByteArray.empty) := HP5.out.put 2 (by simp [cmd5]) (.int .u8 (op.toNat : Int))
          have HP6 := Lib.hid hp6; clear hp6 HP5
          have hlen3 : l3.length ≤ s'.size := by simp only [List.length_cons] at hlen2; omega
          clear hlen2
          have hpar : Keys.parse s'.data.toList = if [100, 121, 99].contains op then Keys.moved ⟨reg, if 0 < (Keys.cnt l3 0).1 then min (max n 1 * (Keys.cnt l3 0).1) 9999 else n, op.toNat, 0, []⟩ op (Keys.cnt l3 0).2 else if Keys.known op then Keys.argued ⟨reg, n, op.toNat, 0, []⟩ op l3 else (Keys.Cm.zero, l3, 2) := HPA.out
          have hcls : Keys.cls s'.data.toList = if [100, 121, 99].contains op then Keys.clsMoved op (Keys.cnt l3 0).2 else if Keys.known op then 4 else 2 := HCO.out
          have HCO2 := Lib.hid hcls; clear hcls HCO
          have HPP := Lib.hid hpar; clear hpar HPA
          go_upto_block 0 with fail
          go_cut [10] from 86 to 156 (fun v10 wr => ∃ (key : UInt8) (c : Keys.Cm) (l : List UInt8), v10 = .int .u8 (key.toNat : Int) ∧ Hid (PSt w B wr s' l false (cmd5 c.reg c.n c.op c.move ByteArray.empty)) ∧ Hid (c.arg = []) ∧ Hid (Keys.parse s'.data.toList = Keys.argued c key l) ∧ Hid (l.length ≤ s'.size) ∧ Hid (Keys.cls s'.data.toList = 4))
          case first =>
            generalize w2.setCell ⟨B + 4, 2, none⟩ (.int .u8 (op.toNat : Int)) = w3 at *
            clear c2 f2 cp
            have c2 := HP6.out.cmd.cell0 2 (by simp [cmd5])
            have cp := HP6.out.ptr.cell0 0 (by simp)
            simp only [cmd5, List.getElem_cons_zero, List.getElem_cons_succ] at c2 cp
            go_wp2_with fail
            with_reducible refine (has_any _ op _).mono ?_
            rintro e w4 ⟨rfl, rfl⟩
            rw [show (ByteArray.mk #[100, 121, 99]).data.toList.contains op = [100, 121, 99].contains op from rfl]
            cases hop : [100, 121, 99].contains op
            case false =>
              have hpar := HPP.out
              rw [hop, if_neg (by simp)] at hpar
              have hcls := HCO2.out
              rw [hop, if_neg (by simp)] at hcls
              have HCK := Lib.hid hcls; clear hcls HCO2
              have HPQ := Lib.hid hpar; clear hpar HPP hop
              go_wp2_with fail
              with_reducible refine (has_any _ op _).mono ?_
              rintro e wq ⟨rfl, rfl⟩
              rw [show (ByteArray.mk #[104, 108, 106, 107, 48, 36, 103, 71, 119, 98, 110, 78, 91, 93]).data.toList.contains op = (Keys.motions : List UInt8).contains op from rfl]
              cases h0 : (Keys.motions : List UInt8).contains op
              case true =>
                have hkn : Keys.known op = true := by unfold Keys.known Keys.goes; rw [h0]; rfl
                have HKN := Lib.hid hkn
                clear hkn h0
                go_wp2_with fail
                go_meet
                exact ⟨op, ⟨reg, n, op.toNat, 0, []⟩, l3, rfl, HP6, Lib.hid rfl, Lib.hid (by rw [HPQ.out, if_pos HKN.out]), Lib.hid hlen3, Lib.hid (by rw [HCK.out, if_pos HKN.out])⟩
              have H0 := Lib.hid h0; clear h0
              go_wp2_with fail
              with_reducible refine (has_any _ op _).mono ?_
              rintro e wq ⟨rfl, rfl⟩
              rw [show (ByteArray.mk #[39, 102]).data.toList.contains op = (Keys.farther : List UInt8).contains op from rfl]
              cases h1 : (Keys.farther : List UInt8).contains op
              case true =>
                have hkn : Keys.known op = true := by unfold Keys.known Keys.goes; rw [H0.out, h1]; rfl
                have HKN := Lib.hid hkn
                clear hkn h1
                go_wp2_with fail
                go_meet
                exact ⟨op, ⟨reg, n, op.toNat, 0, []⟩, l3, rfl, HP6, Lib.hid rfl, Lib.hid (by rw [HPQ.out, if_pos HKN.out]), Lib.hid hlen3, Lib.hid (by rw [HCK.out, if_pos HKN.out])⟩
              have H1 := Lib.hid h1; clear h1
              go_wp2_with fail
              with_reducible refine (has_any _ op _).mono ?_
              rintro e wq ⟨rfl, rfl⟩
              rw [show (ByteArray.mk #[120, 112, 80, 105, 97, 82, 117, 118, 85, 46, 126, 18, 58, 47]).data.toList.contains op = (Keys.alone : List UInt8).contains op from rfl]
              cases h2 : (Keys.alone : List UInt8).contains op
              case true =>
                have hkn : Keys.known op = true := by unfold Keys.known Keys.goes; rw [H0.out, H1.out, h2]; rfl
                have HKN := Lib.hid hkn
                clear hkn h2
                go_wp2_with fail
                go_meet
                exact ⟨op, ⟨reg, n, op.toNat, 0, []⟩, l3, rfl, HP6, Lib.hid rfl, Lib.hid (by rw [HPQ.out, if_pos HKN.out]), Lib.hid hlen3, Lib.hid (by rw [HCK.out, if_pos HKN.out])⟩
              have H2 := Lib.hid h2; clear h2
              go_wp2_with fail
              with_reducible refine (has_any _ op _).mono ?_
              rintro e wq ⟨rfl, rfl⟩
              rw [show (ByteArray.mk #[109, 113, 64]).data.toList.contains op = ([109, 113, 64] : List UInt8).contains op from rfl]
              cases h3 : ([109, 113, 64] : List UInt8).contains op
              case true =>
                have hkn : Keys.known op = true := by unfold Keys.known Keys.goes; rw [H0.out, H1.out, H2.out, h3]; rfl
                have HKN := Lib.hid hkn
                clear hkn h3
                go_wp2_with fail
                go_meet
                exact ⟨op, ⟨reg, n, op.toNat, 0, []⟩, l3, rfl, HP6, Lib.hid rfl, Lib.hid (by rw [HPQ.out, if_pos HKN.out]), Lib.hid hlen3, Lib.hid (by rw [HCK.out, if_pos HKN.out])⟩
              have H3 := Lib.hid h3; clear h3
              go_wp2_with fail
              with_reducible refine (has_any _ op _).mono ?_
              rintro e wq ⟨rfl, rfl⟩
              rw [show (ByteArray.mk #[114]).data.toList.contains op = ([114] : List UInt8).contains op from rfl]
              cases h4 : ([114] : List UInt8).contains op
              case true =>
                have hkn : Keys.known op = true := by unfold Keys.known Keys.goes; rw [H0.out, H1.out, H2.out, H3.out, h4]; rfl
                have HKN := Lib.hid hkn
                clear hkn h4
                go_wp2_with fail
                go_meet
                exact ⟨op, ⟨reg, n, op.toNat, 0, []⟩, l3, rfl, HP6, Lib.hid rfl, Lib.hid (by rw [HPQ.out, if_pos HKN.out]), Lib.hid hlen3, Lib.hid (by rw [HCK.out, if_pos HKN.out])⟩
              have H4 := Lib.hid h4; clear h4
              exact absurd (HV.out.symm.trans (HCK.out.trans (if_neg (by unfold Keys.known Keys.goes; rw [H0.out, H1.out, H2.out, H3.out, H4.out]; decide)))) (by decide)
            case true =>
              have hpar := HPP.out
              rw [hop, if_pos rfl] at hpar
              have hcls := HCO2.out
              rw [hop, if_pos rfl] at hcls
              have HCM := Lib.hid hcls; clear hcls HCO2
              have HPQ := Lib.hid hpar; clear hpar HPP hop
              go_wp2_with fail
              have hrd := HP6.out.rd
              have hl10 : l3.length ≤ 1000 := by omega
              have hcl2 := Keys.cnt_le l3 0 (by decide)
              have hcn2 := Keys.cnt_len l3 0
              with_reducible refine (count_any (B + 2) l3 false _ hrd hl10).mono ?_
              clear hrd c2 cp
              rintro e w5 ⟨rfl, hr5, hg5⟩
              have hp8 := HP6.out.read hr5 hg5
              have HP8 := Lib.hid hp8; clear hp8 hr5 hg5 HP6
              generalize (Keys.cnt l3 0).1 = n2 at *
              generalize (Keys.cnt l3 0).2 = l5 at *
              have hlen5 : l5.length ≤ s'.size := by omega
              have c1 := HP8.out.cmd.cell0 1 (by simp [cmd5])
              have f1 := HP8.out.cmd.frozen0 1 (by simp [cmd5])
              have cp := HP8.out.ptr.cell0 0 (by simp)
              simp only [cmd5, List.getElem_cons_zero, List.getElem_cons_succ] at c1 cp
              obtain ⟨nn, hnn⟩ : ∃ nn, nn = if 0 < n2 then min (max n 1 * n2) 9999 else n := ⟨_, rfl⟩
              have hpq := HPQ.out
              rw [← hnn] at hpq
              have HPR := Lib.hid hpq; clear hpq HPQ
              have hcls := HCM.out
              have HCL5 := Lib.hid hcls; clear hcls HCM
              go_upto_if 92 with fail
              go_cut [] from 92 to 99 (fun wr => Hid (PSt w B wr s' l5 false (cmd5 reg nn op.toNat 0 ByteArray.empty)))
              case first =>
                by_cases hn2 : 0 < n2
                · rw [if_pos hn2] at hnn
                  have hmx : max (n : Int) 1 = ((max n 1 : Nat) : Int) := by omega
                  have hml : max n 1 ≤ 9999 := by omega
                  generalize max n 1 = mx at *
                  have hmul : mx * n2 ≤ 9999 * 9999 := Nat.mul_le_mul hml hcl2
                  have hmi : (mx : Int) * (n2 : Int) = ((mx * n2 : Nat) : Int) := by simp
                  generalize mx * n2 = pr at *
                  have hmw : IntKind.i64.wrap ((mx : Int) * (n2 : Int)) = (pr : Int) := by rw [hmi]; exact IntWalk.i64_in _ ⟨by omega, by omega⟩
                  have hmn : min (pr : Int) 9999 = (nn : Int) := by omega
                  have hp9 : PSt w B (w5.setCell ⟨B + 4, 1, none⟩ (.int .i64 (nn : Int))) s' l5 false (cmd5 reg nn op.toNat 0 ByteArray.empty) := HP8.out.put 1 (by simp [cmd5]) (.int .i64 (nn : Int))
                  have HP9 := Lib.hid hp9; clear hp9
                  clear hnn
                  go_wp2_with fail
                  go_meet
                  exact HP9
                · rw [if_neg hn2] at hnn
                  subst hnn
                  go_wp2_with fail
                  go_meet
                  exact HP8
              case rest =>
                obtain ⟨w9, rfl⟩ : ∃ w9, w9 = wc := ⟨_, rfl⟩
                have HP9 := hcut
                clear c1 f1 cp HP8 hnn
                have cp := HP9.out.ptr.cell0 0 (by simp)
                simp only [List.getElem_cons_zero] at cp
                go_wp2_with fail
                cases l5 with
                | nil =>
                  exact absurd (HV.out.symm.trans ((show _ = 3 from HCL5.out))) (by decide)
                | cons key l6 =>
                  with_reducible refine (next_cons (B + 2) key l6 false _ HP9.out.rd).mono ?_
                  rintro e w10 ⟨rfl, hr10, hg10⟩
                  have hp10 := HP9.out.read hr10 hg10
                  have HP10 := Lib.hid hp10; clear hp10 hr10 hg10
                  have hlen6 : l6.length ≤ s'.size := by simp only [List.length_cons] at hlen5; omega
                  have c2 := HP10.out.cmd.cell0 2 (by simp [cmd5])
                  have c3 := HP10.out.cmd.cell0 3 (by simp [cmd5])
                  have f3 := HP10.out.cmd.frozen0 3 (by simp [cmd5])
                  simp only [cmd5, List.getElem_cons_zero, List.getElem_cons_succ] at c2 c3
                  have hp11 : PSt w B (w10.setCell ⟨B + 4, 3, none⟩ (.int .u8 (key.toNat : Int))) s' l6 false (cmd5 reg nn op.toNat key.toNat ByteArray.empty) := HP10.out.put 3 (by simp [cmd5]) (.int .u8 (key.toNat : Int))
                  have HP11 := Lib.hid hp11; clear hp11
                  by_cases hk : key = op
                  · subst hk
                    have hke : ((key.toNat : Int) == (key.toNat : Int)) = true := by simp
                    exact absurd (HV.out.symm.trans (HCL5.out.trans (if_pos rfl))) (by decide)
                  · have hke : ((key.toNat : Int) == (op.toNat : Int)) = false := by
                      rw [beq_eq_false_iff_ne]
                      intro h
                      exact hk (UInt8.toNat_inj.mp (by omega))
                    have HK := Lib.hid hk; clear hk
                    go_wp2_with fail
                    with_reducible refine (has_any _ key _).mono ?_
                    rintro e wq ⟨rfl, rfl⟩
                    rw [show (ByteArray.mk #[104, 108, 106, 107, 48, 36, 103, 71, 119, 98, 110, 78, 91, 93]).data.toList.contains key = (Keys.motions : List UInt8).contains key from rfl]
                    cases h0 : (Keys.motions : List UInt8).contains key
                    case true =>
                      have hkn : Keys.goes key = true := by unfold Keys.goes; rw [h0]; rfl
                      have HKN := Lib.hid hkn
                      clear hkn h0
                      go_wp2_with fail
                      go_meet
                      exact ⟨key, ⟨reg, nn, op.toNat, key.toNat, []⟩, l6, rfl, HP11, Lib.hid rfl, Lib.hid (by rw [HPR.out]; unfold Keys.moved; simp only; rw [if_neg HK.out, if_pos HKN.out]), Lib.hid hlen6, Lib.hid (by rw [HCL5.out]; unfold Keys.clsMoved; simp only; rw [if_neg HK.out, if_pos HKN.out])⟩
                    have H0 := Lib.hid h0; clear h0
                    go_wp2_with fail
                    with_reducible refine (has_any _ key _).mono ?_
                    rintro e wq ⟨rfl, rfl⟩
                    rw [show (ByteArray.mk #[39, 102]).data.toList.contains key = (Keys.farther : List UInt8).contains key from rfl]
                    cases h1 : (Keys.farther : List UInt8).contains key
                    case true =>
                      have hkn : Keys.goes key = true := by unfold Keys.goes; rw [H0.out, h1]; rfl
                      have HKN := Lib.hid hkn
                      clear hkn h1
                      go_wp2_with fail
                      go_meet
                      exact ⟨key, ⟨reg, nn, op.toNat, key.toNat, []⟩, l6, rfl, HP11, Lib.hid rfl, Lib.hid (by rw [HPR.out]; unfold Keys.moved; simp only; rw [if_neg HK.out, if_pos HKN.out]), Lib.hid hlen6, Lib.hid (by rw [HCL5.out]; unfold Keys.clsMoved; simp only; rw [if_neg HK.out, if_pos HKN.out])⟩
                    have H1 := Lib.hid h1; clear h1
                    have hkn : Keys.goes key = false := by unfold Keys.goes; rw [H0.out, H1.out]; rfl
                    have HGO := Lib.hid hkn; clear hkn
                    exact absurd (HV.out.symm.trans (HCL5.out.trans ((if_neg HK.out).trans (if_neg (by rw [HGO.out]; decide))))) (by decide)
          case rest =>
            obtain ⟨key, c, l4, rfl, HP7, HCA, HPQ, HL4, HC4⟩ := hcut
            clear HP6 HPP c2 f2 cp hlen3
            have hlen4 := HL4.out
            have cp := HP7.out.ptr.cell0 0 (by simp)
            simp only [List.getElem_cons_zero] at cp
            go_wp2_with fail
            have hrd := HP7.out.rd
            with_reducible refine (arg_any (B + 2) key l4 false _ hrd).mono ?_
            rintro e w5 ⟨s1, hs1, rfl, hr5, hg5⟩
            rw [Bool.false_or] at hr5
            have hp8 := HP7.out.read hr5 hg5
            have HP8 := Lib.hid hp8; clear hp8 hr5 hg5 HP7 hrd cp
            have hpar := HPQ.out
            unfold Keys.argued at hpar
            have HPR := Lib.hid hpar; clear hpar HPQ
            have HS1 := Lib.hid hs1; clear hs1
            have hdl : (l4.drop (Keys.want key)).length ≤ s'.size := by rw [List.length_drop]; omega
            generalize (l4.take (Keys.want key)).any (Keys.wrong (Keys.want key)) = bd at *
            generalize l4.drop (Keys.want key) = l5 at *
            have c4 := HP8.out.cmd.cell0 4 (by simp [cmd5])
            have f4 := HP8.out.cmd.frozen0 4 (by simp [cmd5])
            have cp := HP8.out.ptr.cell0 0 (by simp)
            obtain ⟨sr, hsr, hrr⟩ := HP8.out.rd
            have cb := hrr.cell0 1 (by simp)
            simp only [cmd5, List.getElem_cons_zero, List.getElem_cons_succ] at c4 cp cb
            clear hsr hrr
            have hp9 : PSt w B (w5.setCell ⟨B + 4, 4, none⟩ (.string s1)) s' l5 bd (cmd5 c.reg c.n c.op c.move s1) := HP8.out.put 4 (by simp [cmd5]) (.string s1)
            have HP9 := Lib.hid hp9; clear hp9
            by_cases hwl : Keys.want key ≤ l4.length
            case' pos =>
              have hpar := HPR.out
              rw [if_pos hwl] at hpar
              have HPS := Lib.hid hpar; clear hpar
              rw [decide_eq_true hwl]
            case' neg =>
              have hpar := HPR.out
              rw [if_neg hwl] at hpar
              have HPS := Lib.hid hpar; clear hpar
              rw [decide_eq_false hwl]
            all_goals
              clear hwl HPR
            · cases bd with
              | true =>
                go_wp2_with fail
                have hpE := HP9.out
                generalize w5.setCell ⟨B + 4, 4, none⟩ (.string s1) = wg at *
                have ct := hpE.txt.cell0 0 (by simp)
                have cp := hpE.ptr.cell0 0 (by simp)
                simp only [List.getElem_cons_zero] at ct cp
                have hrd := hpE.rd
                have HPE := Lib.hid hpE; clear hpE
                with_reducible refine (used_any B (B + 3) (B + 2) s' (l5) (true) _ hs9 ct cp hrd (hdl)).mono ?_
                clear ct cp hrd
                rintro e wq ⟨rfl, nq, rfl⟩
                obtain ⟨NU, hNU⟩ : ∃ NU : Nat, NU = s'.size - (l5 : List UInt8).length := ⟨_, rfl⟩
                rw [← hNU]
                have HNU := Lib.hid hNU; clear hNU
                have HPF := Lib.hid (HPE.out.draw nq)
                have f0 := HPF.out.res.frozen0 0 (by simp [cmd5])
                have f1 := HPF.out.res.frozen0 1 (by simp [cmd5])
                have f2 := HPF.out.res.frozen0 2 (by simp [cmd5])
                have f3 := HPF.out.res.frozen0 3 (by simp [cmd5])
                have f4 := HPF.out.res.frozen0 4 (by simp [cmd5])
                have r0 := HPF.out.res.cell0 0 (by simp [cmd5])
                have r1 := HPF.out.res.cell0 1 (by simp [cmd5])
                have r2 := HPF.out.res.cell0 2 (by simp [cmd5])
                have r3 := HPF.out.res.cell0 3 (by simp [cmd5])
                have r4 := HPF.out.res.cell0 4 (by simp [cmd5])
                simp only [cmd5, List.getElem_cons_zero, List.getElem_cons_succ] at r0 r1 r2 r3 r4
                go_wp2_with fail
                obtain ⟨hw5, hb5⟩ := HPF.out.whole (.int .u8 0) (.int .i64 0) (.int .u8 0) (.int .u8 0) (.string { data := #[] })
                generalize ((((((wg.drewN nq).setCell ⟨B + 1, 0, none⟩ (.int .u8 0)).setCell ⟨B + 1, 1, none⟩ (.int .i64 0)).setCell ⟨B + 1, 2, none⟩ (.int .u8 0)).setCell ⟨B + 1, 3, none⟩ (.int .u8 0)).setCell ⟨B + 1, 4, none⟩ (.string { data := #[] })) = w5 at *
                have hc0 := hw5.cell0 0 (by simp)
                have hc1 := hw5.cell0 1 (by simp)
                have hc2 := hw5.cell0 2 (by simp)
                have hc3 := hw5.cell0 3 (by simp)
                have hc4 := hw5.cell0 4 (by simp)
                simp only [List.getElem_cons_zero, List.getElem_cons_succ] at hc0 hc1 hc2 hc3 hc4
                exact bodyPost_ret (v := .tuple #[.agg #[(.int .u8 0), (.int .i64 0), (.int .u8 0), (.int .u8 0), (.string { data := #[] })], .int .i64 (NU : Int), .int .i64 2]) (by simp [results, Try.results24, go_sem, hc0, hc1, hc2, hc3, hc4]) rfl (ParseOut.mk _ _ _ ByteArray.empty (by rw [HPS.out, if_pos trivial]) rfl rfl HNU.out (by rw [HB.out] at hb5; exact hb5))
              | false =>
                exfalso
                have h1 : (Keys.parse s'.data.toList).2.2 = 0 := by
                  rw [HPS.out]; rfl
                exact absurd (HW.out.symm.trans h1) (by decide)
            · cases bd with
              | true =>
                go_wp2_with fail
                have hpE := HP9.out
                generalize w5.setCell ⟨B + 4, 4, none⟩ (.string s1) = wg at *
                have ct := hpE.txt.cell0 0 (by simp)
                have cp := hpE.ptr.cell0 0 (by simp)
                simp only [List.getElem_cons_zero] at ct cp
                have hrd := hpE.rd
                have HPE := Lib.hid hpE; clear hpE
                with_reducible refine (used_any B (B + 3) (B + 2) s' (l5) (true) _ hs9 ct cp hrd (hdl)).mono ?_
                clear ct cp hrd
                rintro e wq ⟨rfl, nq, rfl⟩
                obtain ⟨NU, hNU⟩ : ∃ NU : Nat, NU = s'.size - (l5 : List UInt8).length := ⟨_, rfl⟩
                rw [← hNU]
                have HNU := Lib.hid hNU; clear hNU
                have HPF := Lib.hid (HPE.out.draw nq)
                have f0 := HPF.out.res.frozen0 0 (by simp [cmd5])
                have f1 := HPF.out.res.frozen0 1 (by simp [cmd5])
                have f2 := HPF.out.res.frozen0 2 (by simp [cmd5])
                have f3 := HPF.out.res.frozen0 3 (by simp [cmd5])
                have f4 := HPF.out.res.frozen0 4 (by simp [cmd5])
                have r0 := HPF.out.res.cell0 0 (by simp [cmd5])
                have r1 := HPF.out.res.cell0 1 (by simp [cmd5])
                have r2 := HPF.out.res.cell0 2 (by simp [cmd5])
                have r3 := HPF.out.res.cell0 3 (by simp [cmd5])
                have r4 := HPF.out.res.cell0 4 (by simp [cmd5])
                simp only [cmd5, List.getElem_cons_zero, List.getElem_cons_succ] at r0 r1 r2 r3 r4
                go_wp2_with fail
                obtain ⟨hw5, hb5⟩ := HPF.out.whole (.int .u8 0) (.int .i64 0) (.int .u8 0) (.int .u8 0) (.string { data := #[] })
                generalize ((((((wg.drewN nq).setCell ⟨B + 1, 0, none⟩ (.int .u8 0)).setCell ⟨B + 1, 1, none⟩ (.int .i64 0)).setCell ⟨B + 1, 2, none⟩ (.int .u8 0)).setCell ⟨B + 1, 3, none⟩ (.int .u8 0)).setCell ⟨B + 1, 4, none⟩ (.string { data := #[] })) = w5 at *
                have hc0 := hw5.cell0 0 (by simp)
                have hc1 := hw5.cell0 1 (by simp)
                have hc2 := hw5.cell0 2 (by simp)
                have hc3 := hw5.cell0 3 (by simp)
                have hc4 := hw5.cell0 4 (by simp)
                simp only [List.getElem_cons_zero, List.getElem_cons_succ] at hc0 hc1 hc2 hc3 hc4
                exact bodyPost_ret (v := .tuple #[.agg #[(.int .u8 0), (.int .i64 0), (.int .u8 0), (.int .u8 0), (.string { data := #[] })], .int .i64 (NU : Int), .int .i64 2]) (by simp [results, Try.results24, go_sem, hc0, hc1, hc2, hc3, hc4]) rfl (ParseOut.mk _ _ _ ByteArray.empty (by rw [HPS.out, if_pos trivial]) rfl rfl HNU.out (by rw [HB.out] at hb5; exact hb5))
              | false =>
                exfalso
                have h1 : (Keys.parse s'.data.toList).2.2 = 1 := by
                  rw [HPS.out]; rfl
                exact absurd (HW.out.symm.trans h1) (by decide)
end Go.Proofs.Ytenhblpegobbjaa
