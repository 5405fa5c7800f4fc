/- Contract of lex.next: the walk. -/
import Derived.Test.YtnmbakibiaedhaaDoorLexB
namespace Go.Proofs.YtnmbakibiaedhaaDoor
open Go.RowKit
set_option linter.unusedVariables false
set_option linter.unusedSimpArgs false
theorem run_loadVar_cells {P : Program} (w : World) (g : Nat) (ty : TypeId) (cs : Array Value) (d : TypeDesc) (hc : ∀ j v, cs.toList[j]? = some v → w.cell? ⟨g, j, none⟩ = some v)
    (hu : P.underlying ty = some d) (hd : (match d with | .struct _ | .array _ _ => true | _ => false) = true) (hi : (P.info? ty).map (·.size) = some cs.size) :
    (loadVar ty ⟨g, 0, none⟩).run P w = .ok (.agg cs) w := by
  have hl : (loadCells ⟨g, 0, none⟩ cs.toList.length).run P w = .ok cs.toList.toArray w :=
    run_loadCells_list (P := P) w ⟨g, 0, none⟩ cs.toList (fun j v hv => by
      have hadd : (⟨g, 0, none⟩ : Addr).add j = ⟨g, j, none⟩ := by unfold Addr.add; split <;> simp_all
      rw [hadd]
      exact hc j v hv)
  cases hq : P.info? ty with
  | none => simp [hq] at hi
  | some i =>
    have hs : i.size = cs.size := by simpa [hq] using hi
    have hagg : (isAgg ty).run P w = .ok true w := by
      unfold isAgg
      rw [Sem.run_bind, run_underlying hu w]
      cases d <;> simp_all
    simp only [Array.length_toList, Array.toArray_toList] at hl
    simp [loadVar, Sem.run_bind, hagg, sizeOf, typeInfo, hq, hs, hl]
theorem wpList_load_cells {P : Program} {ops : Array Oper} {rest : List Oper} {o : Oper} {a : Act} {w : World} {Q : Exit → Act → World → Prop} (hgd : o.guard = none) (ty : TypeId) (x : Operand) (ho : o.op = .load ty x)
    (g : Nat) (hx : a.eval x = .pointer (some ⟨g, 0, none⟩)) (cs : Array Value) (d : TypeDesc) (hc : ∀ j v, cs.toList[j]? = some v → w.cell? ⟨g, j, none⟩ = some v)
    (hu : P.underlying ty = some d) (hd : (match d with | .struct _ | .array _ _ => true | _ => false) = true) (hi : (P.info? ty).map (·.size) = some cs.size)
    (h : wpList P ops Q rest (a.put o.dst (.agg cs)) w) : wpList P ops Q (o :: rest) a w := by
  refine wpList_plain hgd fun K hK => ?_
  unfold Oper.wp execOp
  simp only [ho, hx, Instr.loadAt, Instr.sureAddr, Sem.run_bind, Sem.run_pure, Result.andThen_ok, run_loadVar_cells w g ty cs d hc hu hd hi]
  exact hK _ _ h
theorem marks_cells {w : World} (h : MarksAt w) : ∀ j v, marksV.toList[j]? = some v → w.cell? ⟨2, j, none⟩ = some v := by
  intro j v hv
  have hj : j < 18 := by
    rcases Nat.lt_or_ge j 18 with h | h
    · exact h
    · rw [List.getElem?_eq_none (by exact h)] at hv; cases hv
  rw [h j hj]
  rcases (by omega : j = 0 ∨ j = 1 ∨ j = 2 ∨ j = 3 ∨ j = 4 ∨ j = 5 ∨ j = 6 ∨ j = 7 ∨ j = 8 ∨ j = 9 ∨ j = 10 ∨ j = 11 ∨ j = 12 ∨ j = 13 ∨ j = 14 ∨ j = 15 ∨ j = 16 ∨ j = 17) with rfl | rfl | rfl | rfl | rfl | rfl | rfl | rfl | rfl | rfl | rfl | rfl | rfl | rfl | rfl | rfl | rfl | rfl <;> exact hv
namespace Lex
/-- no one of the first k marks begins the text -/
def noneTo (l : List UInt8) (k : Nat) : Prop := ∀ j, j < k → (marks.getD j []).isPrefixOf l = false
theorem markLen_hit (l : List UInt8) (k : Nat) (hk : k < 18) (h : noneTo l k) (hm : (marks.getD k []).isPrefixOf l = true) : markLen l = (marks.getD k []).length := by
  have hlen : marks.length = 18 := rfl
  have : (marks.find? fun m => m.isPrefixOf l) = some (marks.getD k []) := by
    rw [List.find?_eq_some_iff_getElem]
    refine ⟨hm, k, by rw [hlen]; exact hk, ?_, fun j hj => ?_⟩
    · rw [List.getD_eq_getElem?_getD, List.getElem?_eq_getElem (by rw [hlen]; exact hk)]; rfl
    · have := h j hj
      rw [List.getD_eq_getElem?_getD, List.getElem?_eq_getElem (by rw [hlen]; omega)] at this
      simpa using this
  unfold markLen
  rw [this]
theorem markLen_none (l : List UInt8) (h : noneTo l 18) : markLen l = 0 := by
  have hlen : marks.length = 18 := rfl
  have : (marks.find? fun m => m.isPrefixOf l) = none := by
    rw [List.find?_eq_none]
    intro m hm
    obtain ⟨j, hj, rfl⟩ := List.mem_iff_getElem.1 hm
    have := h j (by rw [← hlen]; exact hj)
    rw [List.getD_eq_getElem?_getD, List.getElem?_eq_getElem hj] at this
    intro hh
    rw [Option.getD_some] at this
    rw [this] at hh
    cases hh
  unfold markLen
  rw [this]
theorem marks_small (k : Nat) : (marks.getD k []).length ≤ 2 := by
  rw [List.getD_eq_getElem?_getD]
  rcases Nat.lt_or_ge k marks.length with h | h
  · rw [List.getElem?_eq_getElem h]; exact (marks_ne _ (List.getElem_mem h)).2
  · rw [List.getElem?_eq_none h]; decide
end Lex
set_option maxRecDepth 100000 in
set_option maxHeartbeats 2000000 in
theorem next_any (l : List UInt8) (w : World) (h0 : 0 < l.length) (hl : l.length ≤ 100000) (hm : MarksAt w) :
    Calls Tryd.prog 48 #[.string (bstr l)] w fun e w' => e = .returned (.int .i64 (Lex.next l : Nat)) ∧ w = w' := by
  have hat : ∀ k (h : k < (bstr l).size), ((bstr l)[k]'h).toNat = (l.getD k 0).toNat := fun k h => by rw [bstr_atL]
  have hsz : (bstr l).size = l.length := bstr_size l
  obtain ⟨c, r, hcr⟩ : ∃ c r, l = c :: r := by cases l with | nil => simp at h0 | cons c r => exact ⟨c, r, rfl⟩
  have hnx : Lex.next l = if Lex.word (l.getD 0 0) then (l.takeWhile Lex.word).length else Lex.markLen l := by rw [hcr]; rfl
  have hwl := Lex.wordLen_lt l
  have hws := Lex.wordLen_stop l
  have hwle : (l.takeWhile Lex.word).length ≤ l.length := List.Sublist.length_le (List.takeWhile_sublist _)
  have h0I : (0 : Int) < (l.length : Int) := by omega
  have HAT := Lib.hid hat; have HM := Lib.hid hm; have HNX := Lib.hid hnx; have HWL := Lib.hid hwl; have HWS := Lib.hid hws
  clear hat hm hnx hwl hws hcr
  have hl0 := fun (k : Nat) (h : k < (bstr l).size) (w : World) => letter_any ((bstr l)[k]'h).toNat (UInt8.toNat_lt _) w
  have hd0 := fun (k : Nat) (h : k < (bstr l).size) (w : World) => digit_any ((bstr l)[k]'h).toNat (UInt8.toNat_lt _) w
  have HL0 := Lib.hid hl0; have HD0 := Lib.hid hd0
  clear hl0 hd0
  have hb0 : 0 < (bstr l).size := by rw [hsz]; exact h0
  have hw0 : Lex.word (l.getD 0 0) = (Lex.letter ((bstr l)[0]'hb0).toNat || Lex.digit ((bstr l)[0]'hb0).toNat) := by
    rw [HAT.out 0 hb0]; rfl
  have HSZ := Lib.hid hsz; clear hsz
  have HW0 := Lib.hid hw0; clear hw0
  obtain ⟨wl, hwl⟩ : ∃ wl, wl = (l.takeWhile Lex.word).length := ⟨_, rfl⟩
  rw [← hwl] at HNX HWL HWS hwle
  clear hwl
  by_cases hw : Lex.word (l.getD 0 0) = true
  · have hn := HNX.out
    rw [if_pos hw] at hn
    rw [hn]
    have hor := HW0.out.symm.trans hw
    have HOR := Lib.hid hor
    clear hn hor hw HW0 HNX
    cases q1 : Lex.letter ((bstr l)[0]'hb0).toNat <;> cases q2 : Lex.digit ((bstr l)[0]'hb0).toNat
    · exfalso
      have := HOR.out
      rw [q1, q2] at this
      cases this
    all_goals
      have Q1 := Lib.hid q1; have Q2 := Lib.hid q2
      clear q1 q2 HOR
      go_enter Tryd.func48, Tryd.ntmps48
      go_wp2_with (first | (go_at_call 47; refine (HL0.out 0 hb0 _).mono ?_; rintro e w1 ⟨rfl, rfl⟩; rw [Q1.out]) | (go_at_call 82; refine (HD0.out 0 hb0 _).mono ?_; rintro e w1 ⟨rfl, rfl⟩; rw [Q2.out]))
      clear Q1 Q2
      go_loop [3] (fun v3 => ∃ k : Nat, k ≤ wl ∧ v3 = .int .i64 k) (fun v3 => wl - (intOf v3).toNat)
      case atStart => exact ⟨0, by omega, rfl⟩
      case round =>
        obtain ⟨k, hk, rfl⟩ := hrel
        by_cases hlt : k < l.length
        · have hkI : (k : Int) < (l.length : Int) := by omega
          have hbk : k < (bstr l).size := by rw [HSZ.out]; exact hlt
          have hwk : Lex.word (l.getD k 0) = (Lex.letter ((bstr l)[k]'hbk).toNat || Lex.digit ((bstr l)[k]'hbk).toNat) := by
            rw [HAT.out k hbk]; rfl
          by_cases hkw : k < wl
          · have hor := hwk.symm.trans (HWL.out k hkw)
            have HOR := Lib.hid hor
            clear hwk hor
            cases q1 : Lex.letter ((bstr l)[k]'hbk).toNat <;> cases q2 : Lex.digit ((bstr l)[k]'hbk).toNat
            · exfalso
              have := HOR.out
              rw [q1, q2] at this
              cases this
            all_goals
              have Q1 := Lib.hid q1; have Q2 := Lib.hid q2
              clear q1 q2 HOR
              go_wp2_with (first | (go_at_call 47; refine (HL0.out k hbk _).mono ?_; rintro e w1 ⟨rfl, rfl⟩; rw [Q1.out]) | (go_at_call 82; refine (HD0.out k hbk _).mono ?_; rintro e w1 ⟨rfl, rfl⟩; rw [Q2.out]))
              go_round
              case rel => exact ⟨k + 1, by omega, by go_num⟩
              case measure => simp [intOf]; omega
          · obtain rfl : k = wl := by omega
            have hor := hwk.symm.trans (HWS.out hlt)
            rw [Bool.or_eq_false_iff] at hor
            have Q1 := Lib.hid hor.1; have Q2 := Lib.hid hor.2
            clear hwk hor
            go_wp2_with (first | (go_at_call 47; refine (HL0.out k hbk _).mono ?_; rintro e w1 ⟨rfl, rfl⟩; rw [Q1.out]) | (go_at_call 82; refine (HD0.out k hbk _).mono ?_; rintro e w1 ⟨rfl, rfl⟩; rw [Q2.out]))
            go_ret
            exact ⟨rfl, rfl⟩
        · have hd : decide ((k : Int) < (l.length : Int)) = false := by rw [decide_eq_false_iff_not]; omega
          obtain rfl : k = wl := by omega
          go_wp2_with fail
          go_ret
          exact ⟨rfl, rfl⟩
  · have hn := HNX.out
    rw [if_neg hw] at hn
    rw [hn]
    have hor := HW0.out.symm.trans (Bool.eq_false_iff.2 hw)
    rw [Bool.or_eq_false_iff] at hor
    have Q1 := Lib.hid hor.1; have Q2 := Lib.hid hor.2
    clear hn hor hw HW0 HNX
    obtain ⟨V, hV⟩ : ∃ V, V = marksV := ⟨_, rfl⟩
    have hidx := marks_index
    have hcs := marks_cells HM.out
    have hvs : (Tryd.prog.info? 152).map (·.size) = some V.size := by rw [hV]; kernel_rfl
    rw [← hV] at hidx hcs
    clear hV
    have HIDX := Lib.hid hidx; have HCS := Lib.hid hcs; have HVS := Lib.hid hvs
    clear hidx hcs hvs
    go_enter Tryd.func48, Tryd.ntmps48
    go_wp2_with (first | (go_at_call 47; refine (HL0.out 0 hb0 _).mono ?_; rintro e w1 ⟨rfl, rfl⟩; rw [Q1.out]) | (go_at_call 82; refine (HD0.out 0 hb0 _).mono ?_; rintro e w1 ⟨rfl, rfl⟩; rw [Q2.out]) | (with_reducible refine wpList_load_cells rfl 152 _ rfl 2 rfl V _ HCS.out Tryd.underlying152 rfl HVS.out ?_))
    clear Q1 Q2
    go_loop [5, 34] (fun _ v34 => ∃ k : Nat, k ≤ 18 ∧ v34 = .int .i64 k ∧ Hid (Lex.noneTo l k)) (fun _ v34 => 18 - (intOf v34).toNat)
    case atStart => exact ⟨0, by omega, rfl, Lib.hid (fun j hj => by omega)⟩
    case round =>
      obtain ⟨k, hk, rfl, HN⟩ := hrel
      by_cases hk18 : k < 18
      · have hkI : decide ((k : Int) < 18) = true := by rw [decide_eq_true_eq]; omega
        have hx := HIDX.out k hk18
        have hhit := Lex.markLen_hit l k hk18 HN.out
        have hsm := Lex.marks_small k
        have hmiss : (Lex.marks.getD k []).isPrefixOf l = false → Lex.noneTo l (k + 1) := by
          intro h j hj
          rcases Nat.lt_or_ge j k with h1 | h1
          · exact HN.out j h1
          · obtain rfl : j = k := by omega
            exact h
        generalize Lex.marks.getD k [] = m at *
        have hp := fun w => HasPrefix_any l m hl (by omega) w
        cases q : m.isPrefixOf l with
        | true =>
          rw [q] at hp
          have hln := hhit q
          have HLN := Lib.hid hln; have HP := Lib.hid hp
          clear q hhit hmiss hln hp
          go_wp2_with fail
          refine (HP.out _).mono ?_
          rintro e w1 ⟨rfl, rfl⟩
          go_wp2_with fail
          go_ret
          exact ⟨ret_int (by rw [HLN.out]), rfl⟩
        | false =>
          rw [q] at hp
          have HMI := Lib.hid (hmiss q); have HP := Lib.hid hp
          clear q hhit hmiss hp
          go_wp2_with fail
          refine (HP.out _).mono ?_
          rintro e w1 ⟨rfl, rfl⟩
          go_wp2_with fail
          go_round
          case rel => exact ⟨k + 1, by omega, by go_num, HMI⟩
          case measure => simp [intOf]; omega
      · obtain rfl : k = 18 := by omega
        have hn := Lex.markLen_none l HN.out
        have HNN := Lib.hid hn; clear hn
        go_wp2_with fail
        go_ret
        exact ⟨ret_int (by rw [HNN.out]; rfl), rfl⟩
end Go.Proofs.YtnmbakibiaedhaaDoor
