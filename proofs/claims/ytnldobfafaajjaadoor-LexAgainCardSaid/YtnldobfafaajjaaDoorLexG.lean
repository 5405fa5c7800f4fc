/- The law LexAgain. -/
import Derived.Test.YtnldobfafaajjaaDoorLexF
namespace Go.Proofs.YtnldobfafaajjaaDoor
open Go.RowKit
set_option linter.unusedVariables false
set_option linter.unusedSimpArgs false
namespace Lex
theorem ok_drop (s : List UInt8) : ∀ (T : List Tok) (k at_ : Nat), Ok s at_ T → k < T.length → ∃ at2, Ok s at2 (T.drop k) := by
  intro T
  induction T with
  | nil => intro k at_ _ h; simp at h
  | cons t T ih =>
    intro k at_ h hk
    rcases k with _ | k
    · exact ⟨at_, h⟩
    · obtain ⟨x, p⟩ := t
      rw [List.drop_succ_cons]
      exact ih k _ h.2.2.2.2 (by simpa using hk)
theorem join_take (T : List Tok) (sep : List UInt8) (k : Nat) (h : k < T.length) : join (T.take (k + 1)) sep = join (T.take k) sep ++ ((T.getD k ([], 0)).1 ++ sep) := by
  rw [List.take_succ_eq_append_getElem h, join_snoc, List.getD_eq_getElem?_getD, List.getElem?_eq_getElem h]; rfl
theorem ok_len (s : List UInt8) : ∀ (T : List Tok) (at_ : Nat), Ok s at_ T → at_ ≤ s.length → T.length + at_ ≤ s.length := by
  intro T
  induction T with
  | nil => intro at_ _ h; simpa using h
  | cons t T ih =>
    intro at_ h ha
    obtain ⟨x, p⟩ := t
    obtain ⟨h1, h2, h3, h4, h5⟩ := h
    have := ih _ h5 h3
    have hx : 0 < x.length := List.length_pos_iff.2 h2
    simp only [List.length_cons]
    omega
theorem join_len (T : List Tok) (sep : List UInt8) (B : Nat) (h : ∀ t ∈ T, t.1.length ≤ B) : (join T sep).length ≤ T.length * (B + sep.length) := by
  induction T with
  | nil => simp [join]
  | cons t T ih =>
    have h1 := h t List.mem_cons_self
    have h2 := ih fun x hx => h x (List.mem_cons_of_mem _ hx)
    have e : join (t :: T) sep = (t.1 ++ sep) ++ join T sep := by simp [join]
    rw [e, List.length_append, List.length_append, List.length_cons, Nat.succ_mul]
    omega
theorem ok_small (s : List UInt8) : ∀ (T : List Tok) (at_ : Nat), Ok s at_ T → ∀ t ∈ T, t.1.length ≤ s.length := by
  intro T
  induction T with
  | nil => intro _ _ t h; simp at h
  | cons t T ih =>
    intro at_ h k hk
    obtain ⟨x, p⟩ := t
    obtain ⟨h1, h2, h3, h4, h5⟩ := h
    rw [List.mem_cons] at hk
    rcases hk with rfl | hk
    · show x.length ≤ _; omega
    · exact ih _ h5 k hk
end Lex
theorem long_any (l : List UInt8) (w : World) (hl : l.length ≤ 140737488351232) : Calls Tryd.prog 11 #[.string (bstr l)] w fun e w' => e = .returned (.bool (decide ((900 : Int) < (l.length : Int)))) ∧ w = w' := by
  go_enter Tryd.func11, Tryd.ntmps11
  go_wp2_with fail
  go_ret
  exact ⟨ret_bool (by simp), rfl⟩
set_option maxRecDepth 100000 in
set_option maxHeartbeats 4000000 in
theorem LexAgain_l (l : List UInt8) (by_ : Int) (w : World) (hl : l.length ≤ 140737488351232) (hm : MarksAt w) :
    Calls Tryd.prog 3 #[.string (bstr l), .int .i64 by_] w fun e w' => e = .returned (.bool true) ∧ Below w.heap.size w w' := by
  have HM := Lib.hid hm; clear hm
  have HLO := Lib.hid (fun w => long_any l w hl)
  have hcu := cutUp_any w HM.out
  have HCU := Lib.hid hcu; clear hcu
  go_enter Tryd.func3, Tryd.ntmps3
  go_wp2_with fail
  refine HCU.out.mono ?_
  rintro e w1 ⟨rfl, hb1⟩
  have HB1 := Lib.hid hb1
  have HM1 := Lib.hid (HM.out.below hb1 (Nat.le_refl _))
  clear hb1 HCU HM
  go_wp2_with fail
  refine (HLO.out _).mono ?_
  rintro e w2 ⟨rfl, rfl⟩
  clear HLO
  by_cases h9 : 900 < l.length
  · have d1 : decide ((900 : Int) < (l.length : Int)) = true := by rw [decide_eq_true_eq]; omega
    rw [d1]
    go_wp2_with fail
    go_ret
    exact ⟨rfl, HB1.out⟩
  · have d1 : decide ((900 : Int) < (l.length : Int)) = false := by rw [decide_eq_false_iff_not]; omega
    rw [d1]
    clear d1
    have hlx := Lex_any l w1 (by omega) HM1.out
    have HLX := Lib.hid hlx; clear hlx
    go_wp2_with fail
    refine HLX.out.mono ?_
    clear HLX
    rintro e w2 ⟨hb, ⟨T, a, cap, hT, rfl, ho⟩ | ⟨hT, g, rfl⟩⟩
    · have hok := Lex.ok_of l.length l 0 0 T (by simp) (Nat.zero_le _) (Nat.le_refl _) (by rw [List.drop_zero]; exact hT)
      have hgood := Lex.good_all l.length l 0 T (Nat.le_refl _) hT
      have HRD := Lib.hid (ownTok ho)
      have HOK := Lib.hid hok; have HGD := Lib.hid hgood
      have HB2 := Lib.hid (HB1.out.trans (hb.mono HB1.out.size))
      have HM2 := Lib.hid (HM1.out.below hb (Nat.le_refl _))
      have hTl := Lex.ok_len l T 0 hok (Nat.zero_le _)
      clear hb ho hok hgood hT HB1 HM1
      obtain ⟨P, hP⟩ : ∃ P, P = pickN by_ 4 := ⟨_, rfl⟩
      have hP4 := pickN_lt by_ 4 (by decide)
      have hpk := fun w => pick_at by_ 4 4 w (by omega) (by decide) (by decide)
      rw [← hP] at hP4 hpk
      have HPK := Lib.hid hpk; clear hP hpk
      have hP0 : (P : Int) < 4 := by omega
      have hP1 : (0 : Int) ≤ (P : Int) := by omega
      have hrow := RowAt.new2 w2 w2.heap.size rfl 9 (Lex.seps.map fun s => .string (bstr s))
      have hcell := hrow.cell0 P (by simp [Lex.seps]; exact hP4)
      obtain ⟨sep, hsep⟩ : ∃ sep, sep = Lex.seps[P]'(by simp [Lex.seps]; exact hP4) := ⟨_, rfl⟩
      have hsepm : sep ∈ Lex.seps := by rw [hsep]; exact List.getElem_mem _
      rw [List.getElem_map, ← hsep] at hcell
      change (w2.alloc (.cells #[.string ⟨#[32]⟩, .string ⟨#[10]⟩, .string ⟨#[9, 32]⟩, .string ⟨#[35, 120, 61, 61, 49, 10]⟩] 9)).cell? ⟨w2.heap.size, P, none⟩ = some (.string (bstr sep)) at hcell
      have hba := (Below.refl w2.heap.size w2).alloc (Nat.le_refl _) (.cells #[.string ⟨#[32]⟩, .string ⟨#[10]⟩, .string ⟨#[9, 32]⟩, .string ⟨#[35, 120, 61, 61, 49, 10]⟩] 9)
      have HBA := Lib.hid hba
      have HSEP := Lib.hid hsepm
      have hseplen : sep.length ≤ 6 := by
        have := hsepm
        simp only [Lex.seps, List.mem_cons, List.not_mem_nil, or_false] at this
        rcases this with rfl | rfl | rfl | rfl <;> decide
      clear hrow hsep hsepm hba
      go_wp2_with fail
      refine (HPK.out _).mono ?_
      rintro e w3 ⟨rfl, rfl⟩
      go_wp2_with fail
      have HRD4 := Lib.hid (HRD.out.below HBA.out (Nat.le_refl _))
      have HM4 := Lib.hid (HM2.out.below HBA.out (Nat.le_refl _))
      have HB4 := Lib.hid (HB2.out.trans (HBA.out.mono HB2.out.size))
      clear hcell HBA HRD HM2 HB2 HPK
      generalize w2.alloc (.cells #[.string ⟨#[32]⟩, .string ⟨#[10]⟩, .string ⟨#[9, 32]⟩, .string ⟨#[35, 120, 61, 61, 49, 10]⟩] 9) = w4 at *
      have hsmall := Lex.ok_small l T 0 HOK.out
      have hjl : ∀ k, (Lex.join (T.take k) sep).length ≤ 1000000 := by
        intro k
        have h1 := Lex.join_len (T.take k) sep l.length (fun t ht => hsmall t (List.mem_of_mem_take ht))
        have h2 : (T.take k).length ≤ 900 := by rw [List.length_take]; omega
        have h3 : (T.take k).length * (l.length + sep.length) ≤ 900 * 906 := Nat.mul_le_mul h2 (by omega)
        omega
      have HJL := Lib.hid hjl
      clear hsmall hjl
      go_loopw [7, 8, 10] (fun v7 v8 v10 wr => ∃ k at_ q : Nat, k ≤ T.length ∧ v10 = .int .i64 k ∧ v8 = .int .i64 at_ ∧ at_ ≤ l.length ∧ v7 = .string (bstr (Lex.join (T.take k) sep)) ∧ Hid (Lex.Ok l at_ (T.drop k)) ∧ Hid (wr = w4.drewN q)) (fun _ _ v10 _ => T.length - (intOf v10).toNat)
      case atStart => exact ⟨0, 0, 0, by omega, rfl, rfl, by omega, rfl, HOK, Lib.hid rfl⟩
      case round =>
        obtain ⟨k, at_, q, hk, rfl, rfl, hat, rfl, HO, HW⟩ := hrel
        obtain rfl := HW.out
        by_cases hlt : k < T.length
        · have hkI : (k : Int) < (T.length : Int) := by omega
          have hk0 : (0 : Int) ≤ (k : Int) := by omega
          obtain ⟨g, rfl, hg, hc1, hc2⟩ := HRD4.out k hlt
          have hdr : T.drop k = T.getD k ([], 0) :: T.drop (k + 1) := by
            rw [List.drop_eq_getElem_cons hlt, List.getD_eq_getElem?_getD, List.getElem?_eq_getElem hlt]; rfl
          have hjt := Lex.join_take T sep k hlt
          have hj1 := HJL.out k
          have hj2 := HJL.out (k + 1)
          have ho := HO.out
          rw [hdr] at ho
          generalize T.getD k ([], 0) = t at *
          obtain ⟨x, p⟩ := t
          obtain ⟨o1, o2, o3, o4, o5⟩ := ho
          simp only [] at hc1 hc2 hjt
          rw [hjt] at hj2
          have HJT := Lib.hid hjt
          generalize Lex.join (T.take k) sep = J at *
          have hx2 : (bstr l).extract p (p + x.length) = bstr x := by rw [bstr_cutL, Nat.add_sub_cancel_left, o4]
          have hxpos : 0 < x.length := List.length_pos_iff.2 o2
          have hxe : x.isEmpty = false := by cases x with | nil => exact absurd rfl o2 | cons _ _ => rfl
          have HO5 := Lib.hid o5
          simp only [List.length_append] at hj2
          have hd1 : (w4.drewN q).cell? ⟨g, k * 2, none⟩ = some (.string (bstr x)) := hc1
          have hd2 : (w4.drewN q).cell? ⟨g, k * 2 + 1, none⟩ = some (.int .i64 (p : Nat)) := hc2
          clear hc1 hc2 hdr hjt o2 o4 o5 HO HW
          have f1 : decide ((p : Int) < (at_ : Int)) = false := by rw [decide_eq_false_iff_not]; omega
          have f2 : decide (p < at_) = false := by rw [decide_eq_false_iff_not]; omega
          have f3 : decide ((l.length : Int) < (p : Int) + (x.length : Int)) = false := by rw [decide_eq_false_iff_not]; omega
          have f4 : decide (l.length < p + x.length) = false := by rw [decide_eq_false_iff_not]; omega
          have f5 : IntKind.i64.wrap ((p : Int) + (x.length : Int)) = ((p + x.length : Nat) : Int) := by rw [IntKind.wrap_i64]; omega
          have f6 : (0 : Int) ≤ (p : Int) := by omega
          have f7 : (p : Int) ≤ ((p + x.length : Nat) : Int) := by omega
          have f8 : ((p + x.length : Nat) : Int) ≤ (l.length : Int) := by omega
          obtain ⟨wq, hwq⟩ : ∃ wq, wq = w4.drewN q := ⟨_, rfl⟩
          rw [← hwq] at hd1 hd2
          rw [← hwq]
          have HWQ := Lib.hid hwq; clear hwq
          go_wp2_with fail
          go_quiet (fail)
          have hd3 : (wq.drewN nq).cell? ⟨g, k * 2, none⟩ = some (.string (bstr x)) := hd1
          have hd4 : (wq.drewN nq).cell? ⟨g, k * 2 + 1, none⟩ = some (.int .i64 (p : Nat)) := hd2
          have HWN : Hid (wq.drewN nq = w4.drewN (q + nq)) := Lib.hid (by rw [HWQ.out]; exact World.drewN_drewN _ _ _)
          clear hd1 hd2 HWQ
          generalize wq.drewN nq = w5 at *
          have hz : nq = nq := rfl
          clear hz
          go_wp2_with fail
          obtain ⟨n0, hn0⟩ : ∃ n0, n0 = nq := ⟨_, rfl⟩
          rw [← hn0] at HWN
          clear hn0
          clear nq
          go_quiet (fail)
          have hd5 : (w5.drewN nq).cell? ⟨g, k * 2, none⟩ = some (.string (bstr x)) := hd3
          have hd6 : (w5.drewN nq).cell? ⟨g, k * 2 + 1, none⟩ = some (.int .i64 (p : Nat)) := hd4
          have HWM : Hid (w5.drewN nq = w4.drewN (q + n0 + nq)) := Lib.hid (by rw [HWN.out]; exact World.drewN_drewN _ _ _)
          clear hd3 hd4 HWN
          generalize w5.drewN nq = w6 at *
          go_wp2_with fail
          go_roundw
          case rel => exact ⟨k + 1, p + x.length, q + n0 + nq, by omega, by go_num, by first | rfl | exact val_int f5 | go_num, by omega, by rw [HJT.out], HO5, HWM⟩
          case measure => simp [intOf]; omega
        · obtain rfl : k = T.length := by omega
          have hd : decide ((T.length : Int) < (T.length : Int)) = false := by simp
          have htk : T.take T.length = T := List.take_length
          have hjl := HJL.out T.length
          rw [htk] at hjl ⊢
          obtain ⟨T', hT', hTf⟩ := Lex.again sep HSEP.out T 0 HGD.out
          generalize Lex.join T sep = J at *
          have HT' := Lib.hid hT'; have HTF := Lib.hid hTf
          have HRD5 : Hid (ReadsTok (w4.drewN q) a T) := HRD4
          have HM5 : Hid (MarksAt (w4.drewN q)) := HM4
          have HB5 := Lib.hid (bdrewN HB4.out q)
          clear htk hT' hTf HO HRD4 HM4 HB4 HW
          generalize w4.drewN q = w5 at *
          by_cases h3 : 3000 < J.length
          · have f1 : decide ((3000 : Int) < (J.length : Int)) = true := by rw [decide_eq_true_eq]; omega
            have f2 : decide (3000 < J.length) = true := decide_eq_true h3
            go_wp2_with fail
            go_ret
            exact ⟨rfl, HB5.out⟩
          · have f1 : decide ((3000 : Int) < (J.length : Int)) = false := by rw [decide_eq_false_iff_not]; omega
            have f2 : decide (3000 < J.length) = false := decide_eq_false h3
            have hlx := Lex_any J w5 (by omega) HM5.out
            have HLX := Lib.hid hlx; clear hlx
            go_wp2_with fail
            refine HLX.out.mono ?_
            clear HLX
            rintro e w6 ⟨hb6, ⟨T2, a2, cap2, hT2, rfl, ho2⟩ | ⟨hT2, g2, rfl⟩⟩
            · obtain rfl : T2 = T' := Option.some.inj (hT2.symm.trans HT'.out)
              have hlen : T2.length = T.length := by have := congrArg List.length HTF.out; rw [List.length_map, List.length_map] at this; exact this
              have heq := EqualFunc_yes a a2 T.length cap cap2 T T2 w6 rfl HTF.out (by omega) (HRD5.out.below hb6 (Nat.le_refl _)) (ownTok ho2)
              rw [hlen]
              have HEQ := Lib.hid heq
              have HB6 := Lib.hid (HB5.out.trans (hb6.mono HB5.out.size))
              clear heq hb6 ho2 hT2 hlen HRD5 HB5
              go_wp2_with fail
              refine HEQ.out.mono ?_
              rintro e w7 ⟨rfl, hb7⟩
              have HB7 := Lib.hid (HB6.out.trans (hb7.mono HB6.out.size))
              clear hb7
              go_wp2_with fail
              go_ret
              exact ⟨rfl, HB7.out⟩
            · rw [HT'.out] at hT2; cases hT2
    · have HB2 := Lib.hid (HB1.out.trans (hb.mono HB1.out.size))
      clear hb hT
      go_wp2_with fail
      go_ret
      exact ⟨rfl, HB2.out⟩
theorem LexAgain_walk (w : World) (s : ByteArray) (by_ : Int) (hs : s.size ≤ 140737488351232) (h1 : -9223372036854775808 ≤ by_) (h2 : by_ ≤ 9223372036854775807) (hm : MarksAt w) :
    Calls Tryd.prog 3 #[.string s, .int .i64 by_] w fun e w' => e = .returned (.bool true) ∧ Below w.heap.size w w' := by
  rw [eq_bstr s]
  exact LexAgain_l s.data.toList by_ w (by rw [data_length]; exact hs) hm
end Go.Proofs.YtnldobfafaajjaaDoor
