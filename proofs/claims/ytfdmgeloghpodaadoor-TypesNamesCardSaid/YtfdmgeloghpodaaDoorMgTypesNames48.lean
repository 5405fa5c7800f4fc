/- The law TypesNames. -/
import Derived.Test.YtfdmgeloghpodaaDoorMgTypesNames46
import Derived.Test.YtfdmgeloghpodaaDoorMgTypesNames47
section
/- The law TypesNames. -/
namespace Go.Proofs.YtfdmgeloghpodaaDoor
open Go.RowKit
set_option linter.unusedVariables false
set_option linter.unusedSimpArgs false
open Rd
theorem bcatB (t d : List UInt8) : bstr t ++ (bstr d ++ { data := #[32] }) = bstr (t ++ (d ++ [32])) := by
  rw [show ({ data := #[32] } : ByteArray) = bstr [32] from rfl]
  simp only [bstr_append]
theorem bcatZ (d : List UInt8) : bstr d ++ { data := #[90] } = bstr (d ++ [90]) := by
  rw [show ({ data := #[90] } : ByteArray) = bstr [90] from rfl]
  simp only [bstr_append]
theorem bprobe (w : List UInt8) : { data := #[115, 116, 114, 117, 99, 116, 32] } ++ bstr w ++ { data := #[32, 123, 125] } = bstr (Tm.probe w) := by
  rw [show ({ data := #[115, 116, 114, 117, 99, 116, 32] } : ByteArray) = bstr [115, 116, 114, 117, 99, 116, 32] from rfl, show ({ data := #[32, 123, 125] } : ByteArray) = bstr [32, 123, 125] from rfl]
  simp only [bstr_append]
  rfl
theorem withZ_snoc {T : List Rd.Tok} {i : Nat} {t : Rd.Tok} (h : T[i]? = some t) : Tm.withZ (T.take (i + 1)) = Tm.withZ (T.take i) ++ (Tm.addZ t.1 ++ [32]) := by
  unfold Tm.withZ
  rw [List.take_add_one, h, List.flatMap_append]
  simp
theorem addZ_len (w : Tm.Wd) : (Tm.addZ w).length ≤ w.length + 1 := by
  unfold Tm.addZ
  split <;> simp
theorem withZ_len : ∀ (T : List Rd.Tok) (k : Nat), (∀ t ∈ T, t.1.length ≤ k) → (Tm.withZ T).length ≤ (k + 2) * T.length
  | [], k, _ => by simp [Tm.withZ]
  | t :: T, k, h => by
    have h1 := withZ_len T k (fun u hu => h u (by simp [hu]))
    have h2 := h t (by simp)
    have h3 := addZ_len t.1
    have e : Tm.withZ (t :: T) = (Tm.addZ t.1 ++ [32]) ++ Tm.withZ T := by unfold Tm.withZ; rw [List.flatMap_cons]
    rw [e, List.length_append, List.length_append, show (t :: T).length = T.length + 1 from rfl, Nat.mul_add]
    simp only [List.length_cons, List.length_nil]
    omega
theorem addZ_ren_else {w : Tm.Wd} (h : Tm.nameB w = false) : Tm.addZ w = w := Tm.addZ_ren.else_ w h
set_option maxRecDepth 100000 in
set_option maxHeartbeats 8000000 in
theorem TypesNames_in (s : List UInt8) (w : World) (hB : Base w) : Calls Tryd.prog 5 #[.string (bstr s)] w fun e w' => e = .returned (.bool true) ∧ Below w.heap.size w w' := by
  have HBX := Lib.hid (boxed_any w hB)
  have HCU := Lib.hid (fun W (h : Base W) => cutUp_any W h.mks)
  have HLG := Lib.hid (fun W => long_any s W)
  have HB := Lib.hid hB
  clear hB
  go_enter Tryd.func5, Tryd.ntmps5
  go_wp2_with fail
  refine HBX.out.mono ?_
  rintro e w0 ⟨hb0, _, ab, cb, _, _, _, rfl⟩
  have HB0 := Lib.hid hb0
  clear hb0 HBX
  go_wp2_with fail
  refine (HCU.out _ (HB.out.up HB0.out)).mono ?_
  rintro e w1 ⟨rfl, hb1⟩
  have HB1 := Lib.hid (HB0.out.trans (hb1.mono HB0.out.size))
  clear hb1 HCU HB0
  go_wp2_with fail
  refine (HLG.out _).mono ?_
  rintro e w1 ⟨rfl, rfl⟩
  by_cases h9 : 900 < s.length
  · have d9 : decide (900 < s.length) = true := decide_eq_true h9
    go_wp2_with fail
    go_ret
    exact ⟨rfl, HB1.out⟩
  · have d9 : decide (900 < s.length) = false := decide_eq_false h9
    have hs3 : s.length ≤ 3000 := by omega
    have HS3 := Lib.hid hs3
    have HS9 := Lib.hid (show s.length ≤ 900 by omega)
    have HPS := Lib.hid (parse_read s w1 hs3 (HB.out.up HB1.out))
    have HLX := Lib.hid (fun W (h : Base W) => Lex_any s W hs3 h.mks)
    unfold LexOut at HLX
    clear h9 hs3 HLG
    go_wp2_with fail
    refine HPS.out.mono ?_
    rintro e w2 ⟨hb2, ⟨tys, a, cap, vs, hm, rfl⟩ | ⟨hno, g, rfl⟩⟩
    · have HB2 := Lib.hid (HB1.out.trans (hb2.mono HB1.out.size))
      have HM := Lib.hid hm
      obtain ⟨T, hT1, hT2⟩ := hm.rd
      obtain ⟨hT3, hT4, hT5⟩ := toks_lex HS3.out hT1
      have hT6 := Lex.good_all s.length s 0 T (Nat.le_refl _) hT1
      have hT7 := (toks_le s.length s 0 T (Nat.le_refl _) hT1).2
      have KT1 := Lib.hid hT1; have KT2 := Lib.hid hT2; have KT4 := Lib.hid hT4; have KT6 := Lib.hid hT6; have KT7 := Lib.hid hT7; have KT5 := Lib.hid hT5
      obtain ⟨n1, hn1⟩ : ∃ n1, n1 = tys.length := ⟨_, rfl⟩
      rw [← hn1]
      have HN1 := Lib.hid hn1
      clear hm hb2 hT1 hT2 hT3 hT4 hT5 hT6 hT7 HPS hn1
      go_wp2_with fail
      refine (HLX.out _ (HB.out.up HB2.out)).mono ?_
      rintro e w3 ⟨hb3, h3⟩
      obtain ⟨al, cl, rfl, hcl, hol⟩ : ∃ al cl, e = .returned (.tuple #[.slice al T.length cl, .nilIface]) ∧ T.length ≤ cl ∧ ReadsTok w3 al T := by
        rcases h3 with ⟨T', a', cap', h1, h2, h4⟩ | ⟨h1, _⟩
        · rw [KT1.out] at h1
          cases h1
          exact ⟨a', cap', h2, own_cap h4, ownTok h4⟩
        · rw [KT1.out] at h1; cases h1
      have HB3 := Lib.hid (HB2.out.trans (hb3.mono HB2.out.size))
      have HM3 := Lib.hid (HM.out.up hb3)
      have HOL := Lib.hid hol
      obtain ⟨n, hn⟩ : ∃ n, n = T.length := ⟨_, rfl⟩
      rw [← hn] at hcl ⊢
      have HN := Lib.hid hn
      have hn9 : n ≤ 900 := by have := KT5.out; have := HS9.out; omega
      clear hb3 h3 hol hn HLX HM
      go_wp2_with fail
      go_loopw [8, 9] (fun v8 v9 wr => ∃ (i : Nat) (Z : Tm.Wd), v9 = .int .i64 (i : Nat) ∧ v8 = .string (bstr Z) ∧ i ≤ n ∧ Hid (Z = Tm.withZ (T.take i)) ∧ Hid (∀ t ∈ T.take i, Tm.nameB t.1 = true → t.1.length ≤ 11) ∧ Hid (Below w3.heap.size w3 wr)) (fun _ v9 _ => n - (intOf v9).toNat)
      case atStart => exact ⟨0, [], rfl, rfl, Nat.zero_le _, Lib.hid (by simp [Tm.withZ]), Lib.hid (fun t ht => by simp at ht), Lib.hid (Below.refl _ _)⟩
      case round =>
        obtain ⟨i, Z, rfl, rfl, hi, HZ, HQ, HBW⟩ := hrel
        by_cases hlt : i < n
        · have hii : (i : Int) < (n : Int) := by omega
          have q1 : decide ((i : Int) < (n : Int)) = true := decide_eq_true hii
          have q2 : decide (i < n) = true := decide_eq_true hlt
          have HLT := Lib.hid hlt
          obtain ⟨gl, rfl, hglt, hcell, _⟩ := HOL.out i (by rw [← HN.out]; exact hlt)
          obtain ⟨t, ht⟩ : ∃ t, T[i]? = some t := ⟨T[i]'(by rw [← HN.out]; exact hlt), List.getElem?_eq_getElem _⟩
          have htd : T.getD i ([], 0) = t := by rw [List.getD_eq_getElem?_getD, ht]; rfl
          rw [htd] at hcell
          have hcw : wr.cell? ⟨gl, i * 2, none⟩ = some (.string (bstr t.1)) := (HBW.out.cell (p := ⟨gl, i * 2, none⟩) hglt).trans hcell
          have htm : t ∈ T := List.mem_of_getElem? ht
          have hg := KT6.out t htm
          have hl9 : t.1.length ≤ 900 := by have := KT7.out t htm; have := HS9.out; omega
          have hzl : Z.length ≤ 902 * 900 := by
            rw [HZ.out]
            have h1 := withZ_len (T.take i) 900 (fun u hu => by have := KT7.out u (List.mem_of_mem_take hu); have := HS9.out; omega)
            have h2 : (T.take i).length ≤ 900 := by rw [List.length_take]; omega
            exact Nat.le_trans h1 (Nat.mul_le_mul_left _ h2)
          have hpl : (Tm.probe t.1).length ≤ 3000 := by unfold Tm.probe; simp only [List.length_append, List.length_cons, List.length_nil]; omega
          have HBR := Lib.hid (HB3.out.trans (HBW.out.mono HB3.out.size))
          have hpp := parse_read (Tm.probe t.1) wr hpl (HB.out.up HBR.out)
          rw [← bprobe] at hpp
          obtain ⟨Tp, hTp1, hTp2, hTp3⟩ := Tm.probe_read hg
          have HPR := Lib.hid (show (Tm.nameB t.1 = true → ∃ l, ReadT (Tm.probe t.1) l) ∧ (Tm.nameB t.1 = false → ∀ l, ¬ ReadT (Tm.probe t.1) l) from ⟨fun h => by obtain ⟨l, hl⟩ := hTp2 h; exact ⟨l, Tp, hTp1, hl⟩, fun h l ⟨T', h1, h2⟩ => by rw [hTp1] at h1; cases h1; exact hTp3 h l h2⟩)
          have HPP := Lib.hid hpp
          have HT := Lib.hid ht
          have HNA := Lib.hid (fun W => Name_all t.1 W)
          have HSN := Lib.hid (withZ_snoc ht)
          have HIN := Lib.hid (show Tm.nameB t.1 = true → isName t.1 = true from fun h => by
            unfold Tm.nameB at h
            simp only [Bool.and_eq_true] at h
            have h2 := h.1.1
            cases hx : t.1 with
            | nil => rw [hx] at h2; cases h2
            | cons c r => rw [hx] at h2; exact h2)
          obtain ⟨wd, hwd⟩ : ∃ wd, wd = t.1 := ⟨_, rfl⟩
          rw [← hwd] at hcw hl9 HPP HNA HIN HSN HPR
          have HWD := Lib.hid hwd
          have z1 : ¬ 9223372036854775807 < 7 + wd.length := by omega
          have z2 : ¬ 9223372036854775807 < 7 + wd.length + 3 := by omega
          have z3 : ¬ 9223372036854775807 < wd.length + 1 := by omega
          have z4 : ¬ 9223372036854775807 < wd.length + 1 + 1 := by omega
          have z5 : ¬ 9223372036854775807 < Z.length + (wd.length + 1) := by omega
          have z6 : ¬ 9223372036854775807 < Z.length + (wd.length + 1 + 1) := by omega
          clear hglt hcell htd htm hg hzl hpl hpp hTp1 hTp2 hTp3 ht hwd hlt
          go_wp2_with fail
          refine HPP.out.mono ?_
          cases hnb : Tm.nameB wd with
          | true =>
            have HNB := Lib.hid hnb
            clear hnb
            rintro e w4 ⟨hb4, ⟨tp, ap, cp, vp, hmp, rfl⟩ | ⟨hnp, _⟩⟩
            · have HB4 := Lib.hid (HBW.out.trans (hb4.mono HBW.out.size))
              have HBR4 := Lib.hid (HBR.out.trans (hb4.mono HBR.out.size))
              have hnm := HIN.out HNB.out
              clear hb4 hmp
              generalize List.length tp = np
              go_wp2_with fail
              refine (HNA.out _).mono ?_
              rintro e w4 ⟨rfl, rfl⟩
              rw [hnm]
              clear hnm
              by_cases h11 : wd.length ≤ 11
              · have d1 : decide ((12 : Int) < (wd.length : Int) + 1) = false := decide_eq_false (by omega)
                have d2 : decide (12 < wd.length + 1) = false := decide_eq_false (by omega)
                have HZ2 := Lib.hid (show Z ++ ((wd ++ [90]) ++ [32]) = Tm.withZ (T.take (i + 1)) by rw [HSN.out, HZ.out, (Tm.addZ_name HNB.out h11).1])
                have HQ2 := Lib.hid (show ∀ t ∈ T.take (i + 1), Tm.nameB t.1 = true → t.1.length ≤ 11 from fun u hu hnu => by
                  rw [List.take_add_one, HT.out] at hu
                  rcases List.mem_append.1 hu with hu | hu
                  · exact HQ.out u hu hnu
                  · simp at hu; subst hu; rw [← HWD.out]; exact h11)
                go_wp2_with fail
                go_roundw
                case rel => exact ⟨i + 1, Z ++ ((wd ++ [90]) ++ [32]), by go_num, by (try rw [bcatZ]); rw [← bcatB], by have := HLT.out; omega, HZ2, HQ2, HB4⟩
                case measure => simp [intOf]; have := HLT.out; omega
              · have d1 : decide ((12 : Int) < (wd.length : Int) + 1) = true := decide_eq_true (by omega)
                have d2 : decide (12 < wd.length + 1) = true := decide_eq_true (by omega)
                go_wp2_with fail
                go_ret
                exact ⟨rfl, HBR4.out⟩
            · obtain ⟨l, hl⟩ := HPR.out.1 HNB.out
              exact absurd hl (hnp l)
          | false =>
            have HNB := Lib.hid hnb
            clear hnb
            rintro e w4 ⟨hb4, ⟨tp, ap, cp, vp, hmp, rfl⟩ | ⟨hnp, g4, rfl⟩⟩
            · exact absurd hmp.rd (HPR.out.2 HNB.out tp)
            · have HB4 := Lib.hid (HBW.out.trans (hb4.mono HBW.out.size))
              have HZ2 := Lib.hid (show Z ++ (wd ++ [32]) = Tm.withZ (T.take (i + 1)) by rw [HSN.out, HZ.out, addZ_ren_else HNB.out])
              have HQ2 := Lib.hid (show ∀ t ∈ T.take (i + 1), Tm.nameB t.1 = true → t.1.length ≤ 11 from fun u hu hnu => by
                rw [List.take_add_one, HT.out] at hu
                rcases List.mem_append.1 hu with hu | hu
                · exact HQ.out u hu hnu
                · simp at hu; subst hu; rw [← HWD.out, HNB.out] at hnu; cases hnu)
              clear hb4 hnp
              go_wp2_with fail
              refine (HNA.out _).mono ?_
              rintro e w4 ⟨rfl, rfl⟩
              cases isName wd with
              | true =>
                go_wp2_with fail
                go_roundw
                case rel => exact ⟨i + 1, Z ++ (wd ++ [32]), by go_num, by rw [← bcatB], by have := HLT.out; omega, HZ2, HQ2, HB4⟩
                case measure => simp [intOf]; have := HLT.out; omega
              | false =>
                go_wp2_with fail
                go_roundw
                case rel => exact ⟨i + 1, Z ++ (wd ++ [32]), by go_num, by rw [← bcatB], by have := HLT.out; omega, HZ2, HQ2, HB4⟩
                case measure => simp [intOf]; have := HLT.out; omega
        · obtain rfl : i = n := by omega
          have hd : decide ((i : Int) < (i : Int)) = false := by simp
          have hd2 : decide (i < i) = false := by simp
          have HZT := Lib.hid (show Z = Tm.withZ T by rw [HZ.out, HN.out, List.take_length])
          have HQT := Lib.hid (show ∀ t ∈ T, Tm.nameB t.1 = true → t.1.length ≤ 11 from by have := HQ.out; rwa [HN.out, List.take_length] at this)
          have HBR := Lib.hid (HB3.out.trans (HBW.out.mono HB3.out.size))
          have HM4 := Lib.hid (HM3.out.up HBW.out)
          by_cases h3k : 3000 < Z.length
          · have d1 : decide ((3000 : Int) < (Z.length : Int)) = true := decide_eq_true (by omega)
            have d2 : decide (3000 < Z.length) = true := decide_eq_true h3k
            go_wp2_with fail
            go_ret
            exact ⟨rfl, HBR.out⟩
          · have d1 : decide ((3000 : Int) < (Z.length : Int)) = false := decide_eq_false (by omega)
            have d2 : decide (3000 < Z.length) = false := decide_eq_false h3k
            have hz3 : Z.length ≤ 3000 := by omega
            have HZ3 := Lib.hid hz3
            have HPP := Lib.hid (parse_read Z wr hz3 (HB.out.up HBR.out))
            obtain ⟨S, l, g1, g2, g3⟩ := Tm.withZ_read KT2.out KT4.out KT6.out HQT.out
            have HRL := Lib.hid (show ReadT Z l from ⟨S, by rw [HZT.out]; exact g1, by rw [HZT.out]; exact g2⟩)
            have HCK := Lib.hid g3
            clear h3k hz3 g1 g2
            go_wp2_with fail
            refine HPP.out.mono ?_
            rintro e w5 ⟨hb5, ⟨tys2, a2, cap2, vs2, hm2, rfl⟩ | ⟨hno, _⟩⟩
            · obtain rfl := hm2.rd.det HRL.out
              have HB5 := Lib.hid (HBR.out.trans (hb5.mono HBR.out.size))
              have HM5 := Lib.hid (HM4.out.up hb5)
              have hc2 := check_read hm2 HZ3.out
              rw [HCK.out] at hc2
              unfold CheckOut at hc2
              have hc1 := fun W (h : Below w5.heap.size w5 W) => check_read (w := W) (HM5.out.up h) HS3.out
              rw [← HN1.out] at hc1
              unfold CheckOut at hc1
              obtain ⟨n2, hn2⟩ : ∃ n2, n2 = tys2.length := ⟨_, rfl⟩
              rw [← hn2] at hc2 ⊢
              obtain ⟨o, ho⟩ : ∃ o, o = Tm.chk [] tys := ⟨_, rfl⟩
              rw [← ho] at hc1 hc2
              have HC1 := Lib.hid hc1; have HC2 := Lib.hid hc2
              have HER := Lib.hid (fun W (h : Below w.heap.size w W) => (HB.out.up h).env.er)
              clear hb5 hm2 hc1 hc2 hn2 ho HPP g3
              cases o with
              | none =>
                go_wp2_with fail
                refine HC2.out.mono ?_
                rintro e w6 ⟨hb6, rfl⟩
                have HB6 := Lib.hid (HB5.out.trans (hb6.mono HB5.out.size))
                have HU6 := Lib.hid hb6
                clear hb6
                go_wp2_with fail
                refine (Tell_nil w6).mono ?_
                rintro e w7 ⟨rfl, rfl⟩
                go_wp2_with fail
                refine (HC1.out w7 HU6.out).mono ?_
                rintro e w8 ⟨hb8, rfl⟩
                have HB8 := Lib.hid (HB6.out.trans (hb8.mono HB6.out.size))
                clear hb8
                go_wp2_with fail
                refine (Tell_nil w8).mono ?_
                rintro e w9 ⟨rfl, rfl⟩
                go_wp2_with fail
                go_ret
                exact ⟨rfl, HB8.out⟩
              | some en =>
                go_wp2_with fail
                refine HC2.out.mono ?_
                rintro e w6 ⟨hb6, g6, p6, rfl, hr6⟩
                have HB6 := Lib.hid (HB5.out.trans (hb6.mono HB5.out.size))
                have HU6 := Lib.hid hb6
                have HT6 := Lib.hid (Tell_err (.inr ⟨g6, p6, rfl, hr6⟩) (HER.out w6 HB6.out))
                clear hb6 hr6
                go_wp2_with fail
                refine HT6.out.mono ?_
                rintro e w7 ⟨rfl, hb7⟩
                have HB7 := Lib.hid (HB6.out.trans (hb7.mono HB6.out.size))
                have HU7 := Lib.hid (HU6.out.trans (hb7.mono HU6.out.size))
                clear hb7
                go_wp2_with fail
                refine (HC1.out w7 HU7.out).mono ?_
                rintro e w8 ⟨hb8, g8, p8, rfl, hr8⟩
                have HB8 := Lib.hid (HB7.out.trans (hb8.mono HB7.out.size))
                have HT8 := Lib.hid (Tell_err (.inr ⟨g8, p8, rfl, hr8⟩) (HER.out w8 HB8.out))
                clear hb8 hr8
                go_wp2_with fail
                refine HT8.out.mono ?_
                rintro e w9 ⟨rfl, hb9⟩
                have HB9 := Lib.hid (HB8.out.trans (hb9.mono HB8.out.size))
                clear hb9
                go_wp2_with fail
                go_ret
                exact ⟨rfl, HB9.out⟩
            · exact absurd HRL.out (hno l)
    · have HB2 := Lib.hid (HB1.out.trans (hb2.mono HB1.out.size))
      clear hb2 hno HPS
      go_wp2_with fail
      go_ret
      exact ⟨rfl, HB2.out⟩
theorem TypesNames_walk (s : ByteArray) (hs : s.size ≤ 140737488351232) (w : World) (hB : Base w) :
    Calls Tryd.prog 5 #[.string s] w fun e w' => e = .returned (.bool true) ∧ Below w.heap.size w w' := by
  obtain ⟨l, rfl⟩ : ∃ l, s = bstr l := ⟨_, eq_bstr s⟩
  exact TypesNames_in l w hB
end Go.Proofs.YtfdmgeloghpodaaDoor
end
