/- wpList_push, the new block's number as the walk spells it. -/
import Derived.Test.YtlpkebngehmimaaGreatDoorChecked
import Derived.Laws.Rows
import Derived.Test.YtlpkebngehmimaaGreatDoorMgTypesMore0
import Derived.Test.YtlpkebngehmimaaGreatDoorMgTypesMore2
section
/- Contracts of package lex: letter, digit, next. -/
namespace Go.Proofs.YtlpkebngehmimaaGreatDoor
open Go.RowKit
set_option linter.unusedVariables false
set_option linter.unusedSimpArgs false
set_option maxRecDepth 100000 in
theorem letter_any (n : Nat) (hn : n < 256) (w : World) : Calls Tryz.prog 73 #[.int .u8 (n : Nat)] w fun e w' => e = .returned (.bool (Lex.letter n)) ∧ w = w' := by
  obtain ⟨b, hb⟩ : ∃ b, b = Lex.letter n := ⟨_, rfl⟩
  rw [← hb]
  have HB := Lib.hid hb; clear hb
  by_cases k1 : 97 ≤ n
  · have d1 : decide ((97 : Int) ≤ (n : Int)) = true := by rw [decide_eq_true_eq]; omega
    by_cases k2 : n ≤ 122
    · have d2 : decide ((n : Int) ≤ 122) = true := by rw [decide_eq_true_eq]; omega
      have hr : b = true := by rw [HB.out]; simp [Lex.letter]; omega
      subst hr
      go_enter Tryz.func73, Tryz.ntmps73
      go_wp2_with fail
      go_ret
      exact ⟨rfl, rfl⟩
    · have d2 : decide ((n : Int) ≤ 122) = false := by rw [decide_eq_false_iff_not]; omega
      have d3 : decide ((65 : Int) ≤ (n : Int)) = true := by rw [decide_eq_true_eq]; omega
      have d4 : decide ((n : Int) ≤ 90) = false := by rw [decide_eq_false_iff_not]; omega
      have d5 : ((n : Int) == 95) = false := by rw [beq_eq_false_iff_ne]; omega
      have hr : b = false := by rw [HB.out]; simp [Lex.letter]; omega
      subst hr
      go_enter Tryz.func73, Tryz.ntmps73
      go_wp2_with fail
      go_ret
      exact ⟨rfl, rfl⟩
  · have d1 : decide ((97 : Int) ≤ (n : Int)) = false := by rw [decide_eq_false_iff_not]; omega
    by_cases k3 : 65 ≤ n
    · have d3 : decide ((65 : Int) ≤ (n : Int)) = true := by rw [decide_eq_true_eq]; omega
      by_cases k4 : n ≤ 90
      · have d4 : decide ((n : Int) ≤ 90) = true := by rw [decide_eq_true_eq]; omega
        have hr : b = true := by rw [HB.out]; simp [Lex.letter]; omega
        subst hr
        go_enter Tryz.func73, Tryz.ntmps73
        go_wp2_with fail
        go_ret
        exact ⟨rfl, rfl⟩
      · have d4 : decide ((n : Int) ≤ 90) = false := by rw [decide_eq_false_iff_not]; omega
        by_cases k5 : n = 95
        · have d5 : ((n : Int) == 95) = true := by rw [beq_iff_eq]; omega
          have hr : b = true := by rw [HB.out]; simp [Lex.letter]; omega
          subst hr
          have K5 := Lib.hid k5; clear k5
          go_enter Tryz.func73, Tryz.ntmps73
          go_wp2_with fail
          go_ret
          exact ⟨rfl, rfl⟩
        · have d5 : ((n : Int) == 95) = false := by rw [beq_eq_false_iff_ne]; omega
          have hr : b = false := by rw [HB.out]; simp [Lex.letter]; omega
          subst hr
          go_enter Tryz.func73, Tryz.ntmps73
          go_wp2_with fail
          go_ret
          exact ⟨rfl, rfl⟩
    · have d3 : decide ((65 : Int) ≤ (n : Int)) = false := by rw [decide_eq_false_iff_not]; omega
      have d5 : ((n : Int) == 95) = false := by rw [beq_eq_false_iff_ne]; omega
      have hr : b = false := by rw [HB.out]; simp [Lex.letter]; omega
      subst hr
      go_enter Tryz.func73, Tryz.ntmps73
      go_wp2_with fail
      go_ret
      exact ⟨rfl, rfl⟩
theorem digit_any (n : Nat) (hn : n < 256) (w : World) : Calls Tryz.prog 102 #[.int .u8 (n : Nat)] w fun e w' => e = .returned (.bool (Lex.digit n)) ∧ w = w' := by
  obtain ⟨b, hb⟩ : ∃ b, b = Lex.digit n := ⟨_, rfl⟩
  rw [← hb]
  have HB := Lib.hid hb; clear hb
  by_cases k1 : 48 ≤ n
  · have d1 : decide ((48 : Int) ≤ (n : Int)) = true := by rw [decide_eq_true_eq]; omega
    by_cases k2 : n ≤ 57
    · have d2 : decide ((n : Int) ≤ 57) = true := by rw [decide_eq_true_eq]; omega
      have hr : b = true := by rw [HB.out]; simp [Lex.digit]; omega
      subst hr
      go_enter Tryz.func102, Tryz.ntmps102
      go_wp2_with fail
      go_ret
      exact ⟨rfl, rfl⟩
    · have d2 : decide ((n : Int) ≤ 57) = false := by rw [decide_eq_false_iff_not]; omega
      have hr : b = false := by rw [HB.out]; simp [Lex.digit]; omega
      subst hr
      go_enter Tryz.func102, Tryz.ntmps102
      go_wp2_with fail
      go_ret
      exact ⟨rfl, rfl⟩
  · have d1 : decide ((48 : Int) ≤ (n : Int)) = false := by rw [decide_eq_false_iff_not]; omega
    have hr : b = false := by rw [HB.out]; simp [Lex.digit]; omega
    subst hr
    go_enter Tryz.func102, Tryz.ntmps102
    go_wp2_with fail
    go_ret
    exact ⟨rfl, rfl⟩
end Go.Proofs.YtlpkebngehmimaaGreatDoor
end
section
/- Contract of lex.next. -/
namespace Go.Proofs.YtlpkebngehmimaaGreatDoor
open Go.RowKit
set_option linter.unusedVariables false
set_option linter.unusedSimpArgs false
theorem bstr_cutL (l : List UInt8) (i j : Nat) : (bstr l).extract i j = bstr ((l.drop i).take (j - i)) := by
  apply ByteArray.ext
  apply Array.ext'
  rw [ByteArray.data_extract, Array.toList_extract]
  rfl
theorem bstr_atL (l : List UInt8) (i : Nat) (h : i < (bstr l).size) : (bstr l)[i]'h = l.getD i 0 := by
  have h' : i < l.length := by rw [bstr_size] at h; exact h
  rw [List.getD_eq_getElem?_getD, List.getElem?_eq_getElem h']
  rfl
theorem prefix_take (m l : List UInt8) (h : m.length ≤ l.length) : m.isPrefixOf l = (l.take m.length == m) := by
  rw [Bool.eq_iff_iff, List.isPrefixOf_iff_prefix, beq_iff_eq, List.prefix_iff_eq_take]
  exact ⟨fun h => h.symm, fun h => h.symm⟩
theorem prefix_no (m l : List UInt8) (h : ¬ m.length ≤ l.length) : m.isPrefixOf l = false := by
  rw [Bool.eq_false_iff]
  intro hh
  exact h (List.IsPrefix.length_le (List.isPrefixOf_iff_prefix.1 hh))
set_option maxRecDepth 100000 in
theorem HasPrefixL_any (l m : List UInt8) (hl : l.length ≤ 100000) (hm : m.length ≤ 100000) (w : World) : Calls Tryz.prog 114 #[.string (bstr l), .string (bstr m)] w fun e w' => e = .returned (.bool (m.isPrefixOf l)) ∧ w = w' := by
  by_cases h : m.length ≤ l.length
  · have hp := prefix_take m l h
    have hx : (bstr l).extract 0 m.length = bstr (l.take m.length) := by rw [bstr_cutL]; simp
    have d1 : decide ((m.length : Int) ≤ (l.length : Int)) = true := by rw [decide_eq_true_eq]; omega
    have d2 : decide (m.length ≤ l.length) = true := decide_eq_true h
    have hI : (m.length : Int) ≤ (l.length : Int) := by omega
    have HP := Lib.hid hp; clear hp
    go_enter Tryz.func114, Tryz.ntmps114
    go_wp2_with fail
    go_ret
    exact ⟨ret_bool HP.out.symm, rfl⟩
  · have hp := prefix_no m l h
    have d1 : decide ((m.length : Int) ≤ (l.length : Int)) = false := by rw [decide_eq_false_iff_not]; omega
    have d2 : decide (m.length ≤ l.length) = false := decide_eq_false h
    have HP := Lib.hid hp; clear hp
    go_enter Tryz.func114, Tryz.ntmps114
    go_wp2_with fail
    go_ret
    exact ⟨ret_bool HP.out.symm, rfl⟩
theorem HasPrefix_any (l m : List UInt8) (hl : l.length ≤ 100000) (hm : m.length ≤ 100000) (w : World) : Calls Tryz.prog 96 #[.string (bstr l), .string (bstr m)] w fun e w' => e = .returned (.bool (m.isPrefixOf l)) ∧ w = w' := by
  have h := HasPrefixL_any l m hl hm w
  generalize m.isPrefixOf l = b at *
  have H := Lib.hid h; clear h
  go_enter Tryz.func96, Tryz.ntmps96
  go_wp2_with fail
  refine H.out.mono ?_
  rintro e w1 ⟨rfl, rfl⟩
  go_wp2_with fail
  go_ret
  exact ⟨rfl, rfl⟩
/-- the table of marks, as it was laid -/
def MarksAt (w : World) : Prop := ∀ j, j < 18 → w.cell? ⟨2, j, none⟩ = some (.string (bstr (Lex.marks.getD j [])))
theorem MarksAt.below {w w' : World} {B : Nat} (h : MarksAt w) (hb : Below B w w') (hB : w.heap.size ≤ B) : MarksAt w' := by
  intro j hj
  have hc := h j hj
  have hlt := World.block_lt_of_cell? w _ hc
  exact (hb.cell (p := ⟨2, j, none⟩) (Nat.lt_of_lt_of_le hlt hB)).trans hc
def marksV : Array Value := #[.string (bstr [61, 61]), .string (bstr [33, 61]), .string (bstr [123]), .string (bstr [125]), .string (bstr [91]), .string (bstr [93]), .string (bstr [40]), .string (bstr [41]), .string (bstr [59]), .string (bstr [44]), .string (bstr [61]), .string (bstr [43]), .string (bstr [45]), .string (bstr [42]), .string (bstr [38]), .string (bstr [124]), .string (bstr [60]), .string (bstr [62])]
theorem marks_index (k : Nat) (h : k < 18) (w : World) : (Instr.index 184 (.agg marksV) (.int .i64 k)).run Tryz.prog w = .ok (.string (bstr (Lex.marks.getD k []))) w := by
  rcases (by omega : k = 0 ∨ k = 1 ∨ k = 2 ∨ k = 3 ∨ k = 4 ∨ k = 5 ∨ k = 6 ∨ k = 7 ∨ k = 8 ∨ k = 9 ∨ k = 10 ∨ k = 11 ∨ k = 12 ∨ k = 13 ∨ k = 14 ∨ k = 15 ∨ k = 16 ∨ k = 17) with rfl | rfl | rfl | rfl | rfl | rfl | rfl | rfl | rfl | rfl | rfl | rfl | rfl | rfl | rfl | rfl | rfl | rfl <;> kernel_rfl
namespace Lex
theorem wordLen_lt (l : List UInt8) (k : Nat) (h : k < (l.takeWhile word).length) : word (l.getD k 0) = true := by
  have h1 := takeWhile_all word l ((l.takeWhile word)[k]) (List.getElem_mem h)
  have h2 : l.getD k 0 = (l.takeWhile word)[k] := by
    have hp := List.takeWhile_prefix word (l := l)
    have := hp.getElem (by exact h)
    rw [this, List.getD_eq_getElem?_getD, List.getElem?_eq_getElem]
    rfl
  rw [h2]; exact h1
theorem wordLen_stop : ∀ (l : List UInt8), (l.takeWhile word).length < l.length → word (l.getD (l.takeWhile word).length 0) = false := by
  intro l
  induction l with
  | nil => intro h; simp at h
  | cons c l ih =>
    intro h
    rw [List.takeWhile_cons] at h ⊢
    by_cases hc : word c = true
    · rw [if_pos hc] at h ⊢
      simp only [List.length_cons] at h ⊢
      have := ih (by omega)
      simpa using this
    · rw [if_neg hc]
      simpa using hc
end Lex
end Go.Proofs.YtlpkebngehmimaaGreatDoor
end
section
/- Contract of lex.next: the walk. -/
namespace Go.Proofs.YtlpkebngehmimaaGreatDoor
open Go.RowKit
set_option linter.unusedVariables false
set_option linter.unusedSimpArgs false
theorem run_loadVar_cells {P : Program} (w : World) (g : Nat) (ty : TypeId) (cs : Array Value) (d : TypeDesc) (hc : ∀ j v, cs.toList[j]? = some v → w.cell? ⟨g, j, none⟩ = some v)
    (hu : P.underlying ty = some d) (hd : (match d with | .struct _ | .array _ _ => true | _ => false) = true) (hi : (P.info? ty).map (·.size) = some cs.size) :
    (loadVar ty ⟨g, 0, none⟩).run P w = .ok (.agg cs) w := by
  have hl : (loadCells ⟨g, 0, none⟩ cs.toList.length).run P w = .ok cs.toList.toArray w :=
    run_loadCells_list (P := P) w ⟨g, 0, none⟩ cs.toList (fun j v hv => by
      have hadd : (⟨g, 0, none⟩ : Addr).add j = ⟨g, j, none⟩ := by unfold Addr.add; split <;> simp_all
      rw [hadd]
      exact hc j v hv)
  cases hq : P.info? ty with
  | none => simp [hq] at hi
  | some i =>
    have hs : i.size = cs.size := by simpa [hq] using hi
    have hagg : (isAgg ty).run P w = .ok true w := by
      unfold isAgg
      rw [Sem.run_bind, run_underlying hu w]
      cases d <;> simp_all
    simp only [Array.length_toList, Array.toArray_toList] at hl
    simp [loadVar, Sem.run_bind, hagg, sizeOf, typeInfo, hq, hs, hl]
theorem wpList_load_cells {P : Program} {ops : Array Oper} {rest : List Oper} {o : Oper} {a : Act} {w : World} {Q : Exit → Act → World → Prop} (hgd : o.guard = none) (ty : TypeId) (x : Operand) (ho : o.op = .load ty x)
    (g : Nat) (hx : a.eval x = .pointer (some ⟨g, 0, none⟩)) (cs : Array Value) (d : TypeDesc) (hc : ∀ j v, cs.toList[j]? = some v → w.cell? ⟨g, j, none⟩ = some v)
    (hu : P.underlying ty = some d) (hd : (match d with | .struct _ | .array _ _ => true | _ => false) = true) (hi : (P.info? ty).map (·.size) = some cs.size)
    (h : wpList P ops Q rest (a.put o.dst (.agg cs)) w) : wpList P ops Q (o :: rest) a w := by
  refine wpList_plain hgd fun K hK => ?_
  unfold Oper.wp execOp
  simp only [ho, hx, Instr.loadAt, Instr.sureAddr, Sem.run_bind, Sem.run_pure, Result.andThen_ok, run_loadVar_cells w g ty cs d hc hu hd hi]
  exact hK _ _ h
theorem marks_cells {w : World} (h : MarksAt w) : ∀ j v, marksV.toList[j]? = some v → w.cell? ⟨2, j, none⟩ = some v := by
  intro j v hv
  have hj : j < 18 := by
    rcases Nat.lt_or_ge j 18 with h | h
    · exact h
    · rw [List.getElem?_eq_none (by exact h)] at hv; cases hv
  rw [h j hj]
  rcases (by omega : j = 0 ∨ j = 1 ∨ j = 2 ∨ j = 3 ∨ j = 4 ∨ j = 5 ∨ j = 6 ∨ j = 7 ∨ j = 8 ∨ j = 9 ∨ j = 10 ∨ j = 11 ∨ j = 12 ∨ j = 13 ∨ j = 14 ∨ j = 15 ∨ j = 16 ∨ j = 17) with rfl | rfl | rfl | rfl | rfl | rfl | rfl | rfl | rfl | rfl | rfl | rfl | rfl | rfl | rfl | rfl | rfl | rfl <;> exact hv
namespace Lex
/-- no one of the first k marks begins the text -/
def noneTo (l : List UInt8) (k : Nat) : Prop := ∀ j, j < k → (marks.getD j []).isPrefixOf l = false
theorem markLen_hit (l : List UInt8) (k : Nat) (hk : k < 18) (h : noneTo l k) (hm : (marks.getD k []).isPrefixOf l = true) : markLen l = (marks.getD k []).length := by
  have hlen : marks.length = 18 := rfl
  have : (marks.find? fun m => m.isPrefixOf l) = some (marks.getD k []) := by
    rw [List.find?_eq_some_iff_getElem]
    refine ⟨hm, k, by rw [hlen]; exact hk, ?_, fun j hj => ?_⟩
    · rw [List.getD_eq_getElem?_getD, List.getElem?_eq_getElem (by rw [hlen]; exact hk)]; rfl
    · have := h j hj
      rw [List.getD_eq_getElem?_getD, List.getElem?_eq_getElem (by rw [hlen]; omega)] at this
      simpa using this
  unfold markLen
  rw [this]
theorem markLen_none (l : List UInt8) (h : noneTo l 18) : markLen l = 0 := by
  have hlen : marks.length = 18 := rfl
  have : (marks.find? fun m => m.isPrefixOf l) = none := by
    rw [List.find?_eq_none]
    intro m hm
    obtain ⟨j, hj, rfl⟩ := List.mem_iff_getElem.1 hm
    have := h j (by rw [← hlen]; exact hj)
    rw [List.getD_eq_getElem?_getD, List.getElem?_eq_getElem hj] at this
    intro hh
    rw [Option.getD_some] at this
    rw [this] at hh
    cases hh
  unfold markLen
  rw [this]
theorem marks_small (k : Nat) : (marks.getD k []).length ≤ 2 := by
  rw [List.getD_eq_getElem?_getD]
  rcases Nat.lt_or_ge k marks.length with h | h
  · rw [List.getElem?_eq_getElem h]; exact (marks_ne _ (List.getElem_mem h)).2
  · rw [List.getElem?_eq_none h]; decide
end Lex
set_option maxRecDepth 100000 in
set_option maxHeartbeats 2000000 in
theorem next_any (l : List UInt8) (w : World) (h0 : 0 < l.length) (hl : l.length ≤ 100000) (hm : MarksAt w) :
    Calls Tryz.prog 72 #[.string (bstr l)] w fun e w' => e = .returned (.int .i64 (Lex.next l : Nat)) ∧ w = w' := by
  have hat : ∀ k (h : k < (bstr l).size), ((bstr l)[k]'h).toNat = (l.getD k 0).toNat := fun k h => by rw [bstr_atL]
  have hsz : (bstr l).size = l.length := bstr_size l
  obtain ⟨c, r, hcr⟩ : ∃ c r, l = c :: r := by cases l with | nil => simp at h0 | cons c r => exact ⟨c, r, rfl⟩
  have hnx : Lex.next l = if Lex.word (l.getD 0 0) then (l.takeWhile Lex.word).length else Lex.markLen l := by rw [hcr]; rfl
  have hwl := Lex.wordLen_lt l
  have hws := Lex.wordLen_stop l
  have hwle : (l.takeWhile Lex.word).length ≤ l.length := List.Sublist.length_le (List.takeWhile_sublist _)
  have h0I : (0 : Int) < (l.length : Int) := by omega
  have HAT := Lib.hid hat; have HM := Lib.hid hm; have HNX := Lib.hid hnx; have HWL := Lib.hid hwl; have HWS := Lib.hid hws
  clear hat hm hnx hwl hws hcr
  have hl0 := fun (k : Nat) (h : k < (bstr l).size) (w : World) => letter_any ((bstr l)[k]'h).toNat (UInt8.toNat_lt _) w
  have hd0 := fun (k : Nat) (h : k < (bstr l).size) (w : World) => digit_any ((bstr l)[k]'h).toNat (UInt8.toNat_lt _) w
  have HL0 := Lib.hid hl0; have HD0 := Lib.hid hd0
  clear hl0 hd0
  have hb0 : 0 < (bstr l).size := by rw [hsz]; exact h0
  have hw0 : Lex.word (l.getD 0 0) = (Lex.letter ((bstr l)[0]'hb0).toNat || Lex.digit ((bstr l)[0]'hb0).toNat) := by
    rw [HAT.out 0 hb0]; rfl
  have HSZ := Lib.hid hsz; clear hsz
  have HW0 := Lib.hid hw0; clear hw0
  obtain ⟨wl, hwl⟩ : ∃ wl, wl = (l.takeWhile Lex.word).length := ⟨_, rfl⟩
  rw [← hwl] at HNX HWL HWS hwle
  clear hwl
  by_cases hw : Lex.word (l.getD 0 0) = true
  · have hn := HNX.out
    rw [if_pos hw] at hn
    rw [hn]
    have hor := HW0.out.symm.trans hw
    have HOR := Lib.hid hor
    clear hn hor hw HW0 HNX
    cases q1 : Lex.letter ((bstr l)[0]'hb0).toNat <;> cases q2 : Lex.digit ((bstr l)[0]'hb0).toNat
    · exfalso
      have := HOR.out
      rw [q1, q2] at this
      cases this
    all_goals
      have Q1 := Lib.hid q1; have Q2 := Lib.hid q2
      clear q1 q2 HOR
      go_enter Tryz.func72, Tryz.ntmps72
      go_wp2_with (first | (go_at_call 73; refine (HL0.out 0 hb0 _).mono ?_; rintro e w1 ⟨rfl, rfl⟩; rw [Q1.out]) | (go_at_call 102; refine (HD0.out 0 hb0 _).mono ?_; rintro e w1 ⟨rfl, rfl⟩; rw [Q2.out]))
      clear Q1 Q2
      go_loop [3] (fun v3 => ∃ k : Nat, k ≤ wl ∧ v3 = .int .i64 k) (fun v3 => wl - (intOf v3).toNat)
      case atStart => exact ⟨0, by omega, rfl⟩
      case round =>
        obtain ⟨k, hk, rfl⟩ := hrel
        by_cases hlt : k < l.length
        · have hkI : (k : Int) < (l.length : Int) := by omega
          have hbk : k < (bstr l).size := by rw [HSZ.out]; exact hlt
          have hwk : Lex.word (l.getD k 0) = (Lex.letter ((bstr l)[k]'hbk).toNat || Lex.digit ((bstr l)[k]'hbk).toNat) := by
            rw [HAT.out k hbk]; rfl
          by_cases hkw : k < wl
          · have hor := hwk.symm.trans (HWL.out k hkw)
            have HOR := Lib.hid hor
            clear hwk hor
            cases q1 : Lex.letter ((bstr l)[k]'hbk).toNat <;> cases q2 : Lex.digit ((bstr l)[k]'hbk).toNat
            · exfalso
              have := HOR.out
              rw [q1, q2] at this
              cases this
            all_goals
              have Q1 := Lib.hid q1; have Q2 := Lib.hid q2
              clear q1 q2 HOR
              go_wp2_with (first | (go_at_call 73; refine (HL0.out k hbk _).mono ?_; rintro e w1 ⟨rfl, rfl⟩; rw [Q1.out]) | (go_at_call 102; refine (HD0.out k hbk _).mono ?_; rintro e w1 ⟨rfl, rfl⟩; rw [Q2.out]))
              go_round
              case rel => exact ⟨k + 1, by omega, by go_num⟩
              case measure => simp [intOf]; omega
          · obtain rfl : k = wl := by omega
            have hor := hwk.symm.trans (HWS.out hlt)
            rw [Bool.or_eq_false_iff] at hor
            have Q1 := Lib.hid hor.1; have Q2 := Lib.hid hor.2
            clear hwk hor
            go_wp2_with (first | (go_at_call 73; refine (HL0.out k hbk _).mono ?_; rintro e w1 ⟨rfl, rfl⟩; rw [Q1.out]) | (go_at_call 102; refine (HD0.out k hbk _).mono ?_; rintro e w1 ⟨rfl, rfl⟩; rw [Q2.out]))
            go_ret
            exact ⟨rfl, rfl⟩
        · have hd : decide ((k : Int) < (l.length : Int)) = false := by rw [decide_eq_false_iff_not]; omega
          obtain rfl : k = wl := by omega
          go_wp2_with fail
          go_ret
          exact ⟨rfl, rfl⟩
  · have hn := HNX.out
    rw [if_neg hw] at hn
    rw [hn]
    have hor := HW0.out.symm.trans (Bool.eq_false_iff.2 hw)
    rw [Bool.or_eq_false_iff] at hor
    have Q1 := Lib.hid hor.1; have Q2 := Lib.hid hor.2
    clear hn hor hw HW0 HNX
    obtain ⟨V, hV⟩ : ∃ V, V = marksV := ⟨_, rfl⟩
    have hidx := marks_index
    have hcs := marks_cells HM.out
    have hvs : (Tryz.prog.info? 184).map (·.size) = some V.size := by rw [hV]; kernel_rfl
    rw [← hV] at hidx hcs
    clear hV
    have HIDX := Lib.hid hidx; have HCS := Lib.hid hcs; have HVS := Lib.hid hvs
    clear hidx hcs hvs
    go_enter Tryz.func72, Tryz.ntmps72
    go_wp2_with (first | (go_at_call 73; refine (HL0.out 0 hb0 _).mono ?_; rintro e w1 ⟨rfl, rfl⟩; rw [Q1.out]) | (go_at_call 102; refine (HD0.out 0 hb0 _).mono ?_; rintro e w1 ⟨rfl, rfl⟩; rw [Q2.out]) | (with_reducible refine wpList_load_cells rfl 184 _ rfl 2 rfl V _ HCS.out Tryz.underlying184 rfl HVS.out ?_))
    clear Q1 Q2
    go_loop [5, 34] (fun _ v34 => ∃ k : Nat, k ≤ 18 ∧ v34 = .int .i64 k ∧ Hid (Lex.noneTo l k)) (fun _ v34 => 18 - (intOf v34).toNat)
    case atStart => exact ⟨0, by omega, rfl, Lib.hid (fun j hj => by omega)⟩
    case round =>
      obtain ⟨k, hk, rfl, HN⟩ := hrel
      by_cases hk18 : k < 18
      · have hkI : decide ((k : Int) < 18) = true := by rw [decide_eq_true_eq]; omega
        have hx := HIDX.out k hk18
        have hhit := Lex.markLen_hit l k hk18 HN.out
        have hsm := Lex.marks_small k
        have hmiss : (Lex.marks.getD k []).isPrefixOf l = false → Lex.noneTo l (k + 1) := by
          intro h j hj
          rcases Nat.lt_or_ge j k with h1 | h1
          · exact HN.out j h1
          · obtain rfl : j = k := by omega
            exact h
        generalize Lex.marks.getD k [] = m at *
        have hp := fun w => HasPrefix_any l m hl (by omega) w
        cases q : m.isPrefixOf l with
        | true =>
          rw [q] at hp
          have hln := hhit q
          have HLN := Lib.hid hln; have HP := Lib.hid hp
          clear q hhit hmiss hln hp
          go_wp2_with fail
          refine (HP.out _).mono ?_
          rintro e w1 ⟨rfl, rfl⟩
          go_wp2_with fail
          go_ret
          exact ⟨ret_int (by rw [HLN.out]), rfl⟩
        | false =>
          rw [q] at hp
          have HMI := Lib.hid (hmiss q); have HP := Lib.hid hp
          clear q hhit hmiss hp
          go_wp2_with fail
          refine (HP.out _).mono ?_
          rintro e w1 ⟨rfl, rfl⟩
          go_wp2_with fail
          go_round
          case rel => exact ⟨k + 1, by omega, by go_num, HMI⟩
          case measure => simp [intOf]; omega
      · obtain rfl : k = 18 := by omega
        have hn := Lex.markLen_none l HN.out
        have HNN := Lib.hid hn; clear hn
        go_wp2_with fail
        go_ret
        exact ⟨ret_int (by rw [HNN.out]; rfl), rfl⟩
end Go.Proofs.YtlpkebngehmimaaGreatDoor
end
section
/- wpList_push, the new block's number as the walk spells it. -/
namespace Go.Proofs.YtlpkebngehmimaaGreatDoor
open Go.RowKit
set_option linter.unusedVariables false
set_option linter.unusedSimpArgs false
/-- wpList_push, the new element's block under a name of its own -/
theorem wpList_pushW {P : Program} (w : World) (W : Nat) (hW : W = w.heap.size) {ops : Array Oper} {rest : List Oper} {o : Oper} {act : Act} {Q : Exit → Act → World → Prop} (hgd : o.guard = none) (s x : Operand) (t : TypeId)
    (ho : o.op = .call { callee := .builtin .append, args := #[s, x], argTypes := #[t, t] })
    (B : Nat) (e : TypeId) (z : Value) (size bytes : Nat) (ht : P.underlying t = some (.slice e)) (hinf : (P.info? e).map (fun i => (i.zero, i.size, i.bytes)) = some (some z, size, bytes)) (hzs : z.cells.size = size) (hsz : 0 < size)
    (a : Option Addr) (n cap : Nat) (xs : List Value) (hs : act.eval s = .slice a n cap) (hown : Owns w B e size a n cap xs)
    (news : List Value) (hl : news.length = size) (h1 : ∀ u ∈ news, u.oneCell' = true) (hx : act.eval x = .slice (some ⟨W, 0, none⟩) 1 1)
    (h63 : n + 1 ≤ maxLen) (hbytes : (n + 1) * bytes ≤ 140737488355328) (hbase : B ≤ w.heap.size)
    (h : ∀ a' cap' w', Owns w' B e size a' (n + 1) cap' (xs ++ news) → w.grownBy w' (blk a) → (∀ x, a' = some x → a = some x ∨ w.heap.size < x.block) → w.heap.size < w'.heap.size →
      (∃ g, a' = some ⟨g, 0, none⟩) → wpList P ops Q rest (act.put o.dst (.slice a' (n + 1) cap')) w') :
    wpList P ops Q (o :: rest) act (w.alloc (.cells news.toArray e)) := by
  subst hW
  exact wpList_push w hgd s x t ho B e z size bytes ht hinf hzs hsz a n cap xs hs hown news hl h1 hx h63 hbytes hbase h
end Go.Proofs.YtlpkebngehmimaaGreatDoor
end
