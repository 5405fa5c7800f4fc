/- The law ShowSees, walked. -/
import Derived.Test.YtnmbakibiaedhaaDoorShowC
namespace Go.Proofs.YtnmbakibiaedhaaDoor
open Go.RowKit
set_option linter.unusedVariables false
set_option linter.unusedSimpArgs false
theorem idx_has (c : UInt8) : ∀ l : List UInt8, (0 ≤ Lib.indexByte l c) ↔ c ∈ l
  | [] => by simp [Lib.indexByte]
  | b :: l => by
    have ih := idx_has c l
    have hge := Lib.indexByte_ge l c
    unfold Lib.indexByte
    by_cases hb : b == c
    · rw [if_pos hb]
      simp [eq_of_beq hb]
    · rw [if_neg hb]
      have hne : b ≠ c := fun e => hb (by rw [e]; simp)
      rw [List.mem_cons, ← ih]
      by_cases h1 : Lib.indexByte l c == -1
      · rw [if_pos h1]
        have := eq_of_beq h1
        constructor
        · intro h; omega
        · rintro (h | h)
          · exact absurd h.symm hne
          · omega
      · rw [if_neg h1]
        have : Lib.indexByte l c ≠ -1 := fun e => h1 (by rw [e]; rfl)
        constructor
        · intro h; right; omega
        · intro h; omega
def lineS (s : List UInt8) (at_ tO k : Nat) : List UInt8 := Sw.line s at_ (tO + k)
/-- has the line the mark? -/
def hasM (s : List UInt8) (at_ tO k : Nat) : Bool := decide (57 ≤ (lineS s at_ tO k).length) && decide (0 ≤ Lib.indexByte (((lineS s at_ tO k).drop 8).take 49) 62)
theorem hasM_iff (s : List UInt8) (at_ tO k : Nat) (ha : at_ < max s.length 1) : hasM s at_ tO k = decide (at_ / 16 = tO + k) := by
  unfold hasM lineS
  by_cases h : s.length ≤ 16 * (tO + k) ∧ 0 < tO + k
  · have h1 := (Sw.line_length s at_ (tO + k)).1 h
    rw [h1]
    have : ¬ at_ / 16 = tO + k := by omega
    rw [decide_eq_false this]
    rfl
  · have h1 := (Sw.line_length s at_ (tO + k)).2 h
    rw [decide_eq_true h1.1, Bool.true_and, Sw.line_part s at_ (tO + k) h, decide_eq_decide, idx_has, Sw.part_has]
theorem lines_get (s : List UInt8) (at_ tO rows k : Nat) (hk : k < rows) : (strVals ((List.range rows).map fun k => Sw.line s at_ (tO + k)))[k]? = some (.string (bstr (lineS s at_ tO k))) := by
  unfold strVals lineS
  rw [List.map_map, List.getElem?_map, List.getElem?_range hk]
  rfl
set_option maxRecDepth 100000 in
set_option maxHeartbeats 2000000 in
theorem ShowSees_in (s : List UInt8) (at0 : Int) (low : Bool) (mode : Int) (typed : ByteArray) (toldE un mk top rows : Int) (w : World) :
    Calls Tryd.prog 9 #[.agg #[.string (bstr s), .int .i64 at0, .bool low, .int .i64 mode, .string typed, .int .i64 toldE, .int .i64 un, .int .i64 mk], .int .i64 top, .int .i64 rows] w fun e w' => e = .returned (.bool true) ∧ Below w.heap.size w w' := by
  have hsh := fun w => shown_any w
  have hbox := RowAt.new w 65 #[.string (bstr s), .int .i64 at0, .bool low, .int .i64 mode, .string typed, .int .i64 toldE, .int .i64 un, .int .i64 mk]
  have hbb := (Below.refl w.heap.size w).alloc (Nat.le_refl _) (.cells #[.string (bstr s), .int .i64 at0, .bool low, .int .i64 mode, .string typed, .int .i64 toldE, .int .i64 un, .int .i64 mk] 65)
  have HSH := Lib.hid hsh; have HBOX := Lib.hid hbox; have HBB := Lib.hid hbb
  have hszb : (w.alloc (.cells #[.string (bstr s), .int .i64 at0, .bool low, .int .i64 mode, .string typed, .int .i64 toldE, .int .i64 un, .int .i64 mk] 65)).heap.size = w.heap.size + 1 := by simp
  have HSZB := Lib.hid hszb
  clear hsh hbox hbb hszb
  by_cases hs : 600 < s.length
  · have d1 : decide ((600 : Int) < (s.length : Int)) = true := decide_eq_true (by omega)
    have d1n : decide (600 < s.length) = true := decide_eq_true (by omega)
    clear hs
    go_enter Tryd.func9, Tryd.ntmps9
    go_wp2_with fail
    refine (HSH.out _).mono ?_
    rintro e w1 ⟨rfl, hb1⟩
    have c0 := (HBOX.out.below hb1 HBOX.out.lt).cell0 0 (by simp)
    simp only [List.getElem_cons_zero, Array.toList] at c0
    have HB1 := Lib.hid (HBB.out.trans (hb1.mono HBB.out.size))
    clear hb1
    go_wp2_with fail
    go_ret
    exact ⟨rfl, HB1.out⟩
  have d1 : decide ((600 : Int) < (s.length : Int)) = false := decide_eq_false (by omega)
  have d1n : decide (600 < s.length) = false := decide_eq_false (by omega)
  obtain ⟨m, hm⟩ : ∃ m, m = max s.length 1 := ⟨_, rfl⟩
  have hmm : max (s.length : Int) 1 = (m : Int) := by omega
  have hp1 := fun w1 => pick_at top 60 60 w1 rfl (by decide) (by decide)
  have hl1 := pickN_lt top 60 (by decide)
  have hp2 := fun w1 => pick_at rows 16 16 w1 rfl (by decide) (by decide)
  have hl2 := pickN_lt rows 16 (by decide)
  have hp3 := fun w1 => pick_at at0 (m : Int) m w1 rfl (by omega) (by omega)
  have hl3 := pickN_lt at0 m (by omega)
  generalize pickN top 60 = tp at *
  generalize pickN rows 16 = rw0 at *
  generalize pickN at0 m = a at *
  obtain ⟨rr, hrw⟩ : ∃ rr, rr = rw0 + 1 := ⟨_, rfl⟩
  have hri : (1 : Int) + (rw0 : Int) = (rr : Int) := by omega
  have hsc := fun w => Scroll_any tp rr a w (by omega) (by omega) (by omega) (by omega)
  have hsc2 := fun (w : World) => Scroll_any (Sw.scr tp rr a) rr a w (by omega) (by omega) (by have := (Sw.scr_sees tp rr a (by omega)).1; omega) (by omega)
  rw [Sw.scr_again tp rr a (by omega)] at hsc2
  have hli := fun w => Lines_any s a tp rr low mode typed toldE un mk w (by omega) (by omega) (by omega) (by omega) (by omega)
  have hse := Sw.scr_sees tp rr a (by omega)
  have hha := fun tO k => hasM_iff s a tO k (by omega)
  generalize Sw.scr tp rr a = tO at *
  have HP1 := Lib.hid hp1; have HP2 := Lib.hid hp2; have HP3 := Lib.hid hp3; have HSC := Lib.hid hsc; have HSC2 := Lib.hid hsc2; have HLI := Lib.hid hli; have HHA := Lib.hid hha; have HSE := Lib.hid hse
  have hrw1 : 1 ≤ rr := by omega
  have hrw2 : rr ≤ 16 := by omega
  have ha6 : a ≤ 600 := by omega
  have hs6 : s.length ≤ 600 := by omega
  have hto : tO ≤ 600 := by omega
  clear hp1 hp2 hp3 hsc hsc2 hli hha hm hrw hs hl1 hl2 hl3 hse
  go_enter Tryd.func9, Tryd.ntmps9
  go_wp2_with fail
  refine (HSH.out _).mono ?_
  rintro e w1 ⟨rfl, hb1⟩
  have hbx1 := HBOX.out.below hb1 HBOX.out.lt
  have HB1 := Lib.hid (HBB.out.trans (hb1.mono HBB.out.size))
  have hz1 : w.heap.size + 1 ≤ w1.heap.size := by have := hb1.size; rw [HSZB.out] at this; exact this
  obtain ⟨B, hB⟩ : ∃ B, B = w.heap.size := ⟨_, rfl⟩
  rw [← hB] at hbx1 hz1 HB1
  have c0 := hbx1.cell0 0 (by simp); have c1 := hbx1.cell0 1 (by simp)
  have f1 := hbx1.frozen0 1 (by simp)
  simp only [List.getElem_cons_zero, List.getElem_cons_succ, Array.toList] at c0 c1
  have HBX1 := Lib.hid hbx1
  have HEB := Lib.hid hB
  rw [← hB]
  clear hb1 hbx1 hB
  go_wp2_with fail
  refine (HP1.out _).mono ?_
  rintro e w2 ⟨rfl, rfl⟩
  go_wp2_with fail
  refine (HP2.out _).mono ?_
  rintro e w2 ⟨rfl, rfl⟩
  go_wp2_with fail
  refine (HP3.out _).mono ?_
  rintro e w2 ⟨rfl, rfl⟩
  go_wp2_with fail
  have hbx2 := HBX1.out.set0 1 (by simp) (.int .i64 (a : Nat))
  have hB2 := HB1.out.setCell (p := ⟨B, 1, none⟩) (Nat.le_refl _) (.int .i64 (a : Nat))
  have hz2 : w.heap.size + 1 ≤ (w1.setCell ⟨B, 1, none⟩ (.int .i64 (a : Nat))).heap.size := by rw [World.size_setCell, ← HEB.out]; exact hz1
  clear c0 c1 f1 hz1
  generalize w1.setCell ⟨B, 1, none⟩ (.int .i64 (a : Nat)) = w2 at *
  have c0 := hbx2.cell0 0 (by simp); have c1 := hbx2.cell0 1 (by simp); have c2 := hbx2.cell0 2 (by simp); have c3 := hbx2.cell0 3 (by simp)
  have c4 := hbx2.cell0 4 (by simp); have c5 := hbx2.cell0 5 (by simp); have c6 := hbx2.cell0 6 (by simp); have c7 := hbx2.cell0 7 (by simp)
  simp only [List.set_cons_succ, List.set_cons_zero, List.getElem_cons_zero, List.getElem_cons_succ] at c0 c1 c2 c3 c4 c5 c6 c7
  have HB2 := Lib.hid hB2; have HZ2 := Lib.hid hz2
  clear hbx2 hB2 hz2
  refine (HSC.out _).mono ?_
  rintro e w3 ⟨rfl, rfl⟩
  go_wp2_with fail
  refine (HSC2.out _).mono ?_
  rintro e w3 ⟨rfl, rfl⟩
  go_wp2_with fail
  refine (HLI.out _).mono ?_
  rintro e w3 ⟨ga, cap, rfl, hown, hb3⟩
  cases ga with
  | none => exact absurd (Owns.of_none hown).1 (by omega)
  | some y =>
  obtain ⟨hy, _, _, _, hr⟩ := hown.row
  obtain ⟨g, hg⟩ : ∃ g, g = y.block := ⟨_, rfl⟩
  rw [← hg] at hy hr
  subst hy
  have hBlt : B < w2.heap.size := by have := HZ2.out; rw [← HEB.out] at this; exact this
  have d1 := (show w3.cell? ⟨B, 1, none⟩ = some (.int .i64 (a : Nat)) from (hb3.cell (p := ⟨B, 1, none⟩) hBlt).trans c1)
  have hcell : ∀ k, k < rr → w3.cell? ⟨g, k, none⟩ = some (.string (bstr (lineS s a tO k))) := by
    intro k hk
    have hlen : (strVals ((List.range rr).map fun k => Sw.line s a (tO + k))).length = rr := by simp [strVals]
    have := hr.cell0 k (by omega)
    rw [this]
    have h2 := lines_get s a tO rr k hk
    rw [List.getElem?_eq_getElem (by omega)] at h2
    exact h2
  have HCE := Lib.hid hcell
  have HB3 := Lib.hid (HB2.out.trans (hb3.mono (Nat.le_of_lt hBlt)))
  obtain ⟨R, hR⟩ : ∃ R, R = a / 16 := ⟨_, rfl⟩
  have hRi : (a : Int) / 16 = (R : Int) := by omega
  have hse := HSE.out
  have hha := HHA.out
  rw [← hR] at hse hha
  have HSE := Lib.hid hse; have HHA := Lib.hid hha
  clear hown hr hcell hb3 hg c0 c1 c2 c3 c4 c5 c6 c7 hR hse hha
  go_wp2_with fail
  go_loop [14, 15] (fun v14 v15 => ∃ i n : Nat, i ≤ rr ∧ v15 = .int .i64 i ∧ v14 = .int .i64 n ∧ (R < tO + i ∧ n = 1 ∨ ¬ R < tO + i ∧ n = 0)) (fun _ v15 => rr - (intOf v15).toNat)
  case atStart => exact ⟨0, 0, by omega, rfl, rfl, .inr ⟨by have := HSE.out; omega, rfl⟩⟩
  case round =>
    obtain ⟨i, n, hi, rfl, rfl, hn⟩ := hrel
    by_cases hlt : i < rr
    · have hltI : (i : Int) < (rr : Int) := by omega
      have hltN : decide (i < rr) = true := decide_eq_true hlt
      have ci := HCE.out i hlt
      have hmi := HHA.out tO i
      unfold hasM at hmi
      generalize lineS s a tO i = L at *
      have hcx : (bstr L).extract 8 57 = bstr ((L.drop 8).take 49) := by
        apply ByteArray.ext
        apply Array.ext'
        rw [ByteArray.data_extract, Array.toList_extract]
        rfl
      have hco := fun w => Tryd.strings_Contains_one (bstr ((L.drop 8).take 49)) 62 w
      rw [show (bstr ((L.drop 8).take 49)).data.toList = (L.drop 8).take 49 from rfl] at hco
      generalize (L.drop 8).take 49 = X at *
      by_cases hL : 57 ≤ L.length
      · have e1 : decide ((57 : Int) ≤ (L.length : Int)) = true := decide_eq_true (by omega)
        have e1n : decide (57 ≤ L.length) = true := decide_eq_true hL
        have e2 : (57 : Int) ≤ (L.length : Int) := by omega
        rw [e1n, Bool.true_and] at hmi
        rw [hmi] at hco
        by_cases hR : R = tO + i
        · rw [decide_eq_true hR] at hco
          have hn0 : n = 0 := by omega
          subst hn0
          have hsub : (R : Int) - (tO : Int) = (i : Int) := by omega
          have HCO := Lib.hid hco
          have HRR := Lib.hid hR
          clear hco hmi hR hn hL
          go_wp2_with fail
          refine (HCO.out _).mono ?_
          rintro e w9 ⟨rfl, rfl⟩
          go_wp2_with fail
          go_round
          case rel => exact ⟨i + 1, 1, by omega, by go_num, rfl, .inl ⟨by have := HRR.out; omega, rfl⟩⟩
          case measure => simp [intOf]; omega
        · rw [decide_eq_false hR] at hco
          have HCO := Lib.hid hco
          have HNN : Hid (R < tO + (i + 1) ∧ n = 1 ∨ ¬ R < tO + (i + 1) ∧ n = 0) := Lib.hid (by omega)
          clear hco hmi hR hn hL
          go_wp2_with fail
          refine (HCO.out _).mono ?_
          rintro e w9 ⟨rfl, rfl⟩
          go_wp2_with fail
          go_round
          case rel => exact ⟨i + 1, n, by omega, by go_num, rfl, HNN.out⟩
          case measure => simp [intOf]; omega
      · have e1 : decide ((57 : Int) ≤ (L.length : Int)) = false := decide_eq_false (by omega)
        have e1n : decide (57 ≤ L.length) = false := decide_eq_false hL
        have e2 : ¬ (57 : Int) ≤ (L.length : Int) := by omega
        rw [e1n, Bool.false_and] at hmi
        have hR : ¬ R = tO + i := of_decide_eq_false hmi.symm
        have HNN : Hid (R < tO + (i + 1) ∧ n = 1 ∨ ¬ R < tO + (i + 1) ∧ n = 0) := Lib.hid (by omega)
        clear hco hmi hR hn hL
        go_wp2_with fail
        go_round
        case rel => exact ⟨i + 1, n, by omega, by go_num, rfl, HNN.out⟩
        case measure => simp [intOf]; omega
    · obtain rfl : i = rr := by omega
      have hse := HSE.out
      obtain rfl : n = 1 := by omega
      have hd9 : decide ((i : Int) < (i : Int)) = false := by simp
      have HN1 := Lib.hid (show R < tO + i ∧ 1 = 1 from ⟨hse.2.1, rfl⟩)
      clear hn hlt
      go_wp2_with fail
      all_goals
        go_ret
        refine ⟨?_, by rw [← HEB.out]; exact HB3.out⟩
        have h7 := HSE.out
        first | rfl | (refine congrArg (fun b => Ending.returned (Value.bool b)) ?_; rw [beq_iff_eq]; omega) | (exfalso; omega)
theorem ShowSees_walk (s : ByteArray) (at0 : Int) (low : Bool) (mode : Int) (typed : ByteArray) (toldE un mk top rows : Int) (W : World) :
    Calls Tryd.prog 9 #[.agg #[.string s, .int .i64 at0, .bool low, .int .i64 mode, .string typed, .int .i64 toldE, .int .i64 un, .int .i64 mk], .int .i64 top, .int .i64 rows] W fun e w' => e = .returned (.bool true) ∧ Below W.heap.size W w' := by
  rw [eq_bstr s]
  exact ShowSees_in s.data.toList at0 low mode typed toldE un mk top rows W
end Go.Proofs.YtnmbakibiaedhaaDoor
