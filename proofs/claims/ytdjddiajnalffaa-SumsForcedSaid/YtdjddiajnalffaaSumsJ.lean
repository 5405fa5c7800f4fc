/- The walk of the law SumsForced. -/
import Derived.Test.YtdjddiajnalffaaSumsI
import Derived.Deep.RegionHeld3
namespace Go.Proofs.Ytdjddiajnalffaa
open Go.RowKit
set_option linter.unusedVariables false
set_option linter.unusedSimpArgs false
theorem put_text (s b : ByteArray) (p : Nat) (hp : p ≤ s.size) : (s.extract 0 p ++ b ++ s.extract p s.size).data.toList = s.data.toList.take p ++ b.data.toList ++ s.data.toList.drop p := by
  have hl : s.data.toList.length = s.size := data_length s
  simp only [append_data, extract_data]
  rw [List.drop_zero, List.take_of_length_le (show s.data.toList.length ≤ s.size by omega)]
theorem want_form (wd want : Nat) (h : wd = 8 ∨ wd = 16 ∨ wd = 32) (hw : want < 4294967296) :
    bits .and .u32 (want : Int) (((2 : Int) ^ wd - 1) % 4294967296) = ((want % 2 ^ wd : Nat) : Int) := by
  rcases h with rfl | rfl | rfl
  · rw [show (((2 : Int) ^ 8 - 1) % 4294967296) = ((255 : Nat) : Int) from by decide, u32_and_nat _ _ hw (by decide), show (255 : Nat) = 2 ^ 8 - 1 from rfl, Nat.and_two_pow_sub_one_eq_mod]
  · rw [show (((2 : Int) ^ 16 - 1) % 4294967296) = ((65535 : Nat) : Int) from by decide, u32_and_nat _ _ hw (by decide), show (65535 : Nat) = 2 ^ 16 - 1 from rfl, Nat.and_two_pow_sub_one_eq_mod]
  · rw [show (((2 : Int) ^ 32 - 1) % 4294967296) = ((4294967295 : Nat) : Int) from by decide, u32_and_nat _ _ hw (by decide), show (4294967295 : Nat) = 2 ^ 32 - 1 from rfl, Nat.and_two_pow_sub_one_eq_mod]
set_option maxRecDepth 100000 in
set_option maxHeartbeats 2000000 in
theorem SumsForced_walk (s : ByteArray) (a : Int) (want : Nat) (wd : Int) (p i o : Nat) (way : Bool) (other : ByteArray) (hs : s.size ≤ 140737488351232)
    (_ : -9223372036854775808 ≤ a) (_ : a ≤ 9223372036854775807) (hwant : want < 4294967296)
    (_ : -9223372036854775808 ≤ wd) (_ : wd ≤ 9223372036854775807) (hp : p < 4294967296) (hi : i < 4294967296) (ho : o < 4294967296) (hother : other.size ≤ 140737488351232) (w : World) :
    Calls Try.prog 6 #[.string s, .int .i64 a, .int .u32 want, .int .i64 wd, .int .u32 p, .int .u32 i, .int .u32 o, .bool way, .string other] w fun e w' => e = .returned (.bool true) ∧ Below w.heap.size w w' := by
  by_cases h200 : 200 < s.size
  · have h200' : (200 : Int) < (s.size : Int) := by omega
    go_enter Try.func6, Try.ntmps6
    go_wp2_with fail
    refine (summed_any _).mono ?_
    rintro e w1 ⟨rfl, hb1⟩
    go_wp2_with fail
    go_ret
    exact ⟨rfl, hb1⟩
  have h200' : (s.size : Int) ≤ 200 := by omega
  go_enter Try.func6, Try.ntmps6
  go_wp2_with fail
  refine (summed_any _).mono ?_
  rintro e w1 ⟨rfl, hb1⟩
  go_wp2_with fail
  refine (made_any wd p i o way _ hp hi ho).mono ?_
  rintro e w2 ⟨rfl, hb2⟩
  have hok := madeP_ok (madeW wd) p i o way (madeW_or wd)
  generalize madeP (madeW wd) p i o way = m at *
  unfold sumVal sumCells
  have hof := fun (s : ByteArray) (w : World) (h : s.size ≤ 140737488351232) => of_any m s w hok h
  unfold sumVal sumCells at hof
  have HOF := Lib.hid hof; clear hof
  have hfo := fun (a want : Nat) (w : World) (ha : a ≤ s.size) (hw : want < 2 ^ m.w) => Force_any m s a want w hok (by omega) ha hw
  unfold sumVal sumCells at hfo
  have HFO := Lib.hid hfo; clear hfo
  go_wp2_with fail
  have hrow := RowAt.new w2 25 (sumCells m)
  have hbb := (Below.refl w2.heap.size w2).alloc (Nat.le_refl _) (.cells (sumCells m) 25)
  unfold sumCells at hrow hbb
  have hlt := hrow.lt
  generalize hw3 : w2.alloc (.cells #[.int .i64 (m.w : Nat), .int .u32 (m.p : Nat), .bool m.t, .int .u32 (m.i : Nat), .int .u32 (m.o : Nat)] 25) = w3 at *
  clear hw3
  have hbw : Below w.heap.size w w3 := by
    have c2 := hb1.trans (hb2.mono hb1.size)
    exact c2.trans (hbb.mono c2.size)
  generalize hg : w2.heap.size = g at *
  have HG := Lib.hid hg; clear hg hb1 hb2 hbb
  have hc0 := hrow.cell0 0 (by simp)
  have hc1 := hrow.cell0 1 (by simp)
  have hc2 := hrow.cell0 2 (by simp)
  have hc3 := hrow.cell0 3 (by simp)
  have hc4 := hrow.cell0 4 (by simp)
  simp only [List.getElem_cons_zero, List.getElem_cons_succ] at hc0 hc1 hc2 hc3 hc4
  have hpk := fun w => pick_at a ((s.size : Int) + 1) (s.size + 1) w (by omega) (by omega) (by omega)
  have hpl := pickN_lt a (s.size + 1) (by omega)
  generalize pickN a (s.size + 1) = q at *
  have HPK := Lib.hid hpk; clear hpk
  have hw1 : IntKind.i64.wrap ((s.size : Int) + 1) = (s.size : Int) + 1 := IntWalk.i64_in _ ⟨by omega, by omega⟩
  have hmw1 : (m.w : Int) ≤ 32 := by have := hok.w; omega
  have hmw0 : (0 : Int) ≤ (m.w : Int) := by omega
  have hmwW : IntKind.u64.wrap (m.w : Int) = (m.w : Int) := IntWalk.u64_in _ ⟨by omega, by omega⟩
  go_quiet ((first | (go_at_call 21; with_reducible exact Calls.quiet_of_same (turn (HPK.out _)))))
  rw [want_form _ want hok.w hwant]
  have hWl : want % 2 ^ m.w < 2 ^ m.w := Nat.mod_lt _ (Nat.pow_pos (by decide))
  generalize want % 2 ^ m.w = W at *
  go_wp2_with fail
  refine (HFO.out q W _ (by omega) hWl).mono ?_
  rintro e w5 ⟨rfl, hb5⟩
  have hFl := forced_length m s.data.toList q W
  have hFi := fun o => forced_iff m hok s.data.toList o q W hWl
  generalize forced m s.data.toList q W = F at *
  have hbsz : (bstr F).size = m.w / 8 := by rw [bstr_size, hFl]
  have hbdt : (bstr F).data.toList = F := bstr_data F
  generalize bstr F = b at *
  have hw8d : (m.w : Int) / 8 = ((m.w / 8 : Nat) : Int) := by simp
  have hw8t : (m.w : Int).tdiv 8 = ((m.w / 8 : Nat) : Int) := by rw [Int.tdiv_eq_ediv_of_nonneg (by omega)]; exact hw8d
  have hnl : m.w / 8 ≤ 4 := by have := hok.w; omega
  have hwn : IntKind.i64.wrap ((m.w / 8 : Nat) : Int) = ((m.w / 8 : Nat) : Int) := IntWalk.i64_in _ ⟨by omega, by omega⟩
  generalize m.w / 8 = n at *
  subst hbsz
  have hs5 := keepSum hb5 ⟨hc0, hc1, hc2, hc3, hc4, hlt, bdrewN (Below.refl _ _) nq⟩
  clear hc0 hc1 hc2 hc3 hc4 hlt
  obtain ⟨hc0, hc1, hc2, hc3, hc4, hlt, hB3⟩ := hs5
  have hX1 : ofN m (s.extract 0 q ++ b ++ s.extract q s.size).data.toList = W := by
    rw [put_text s b q (by omega), hbdt]
    exact (hFi F hFl).2 rfl
  have hX1s : (s.extract 0 q ++ b ++ s.extract q s.size).size ≤ 140737488351232 := by
    have q1 := congrArg List.length (put_text s b q (by omega))
    rw [data_length, List.length_append, List.length_append, List.length_take, List.length_drop, data_length, data_length] at q1
    omega
  have hq1 : (q : Int) ≤ (s.size : Int) := by omega
  go_wp2_with fail
  have hL1 : ¬ 9223372036854775807 < min q s.size + b.size := by omega
  have hL2 : ¬ 9223372036854775807 < min q s.size + b.size + (s.size - q) := by omega
  have hof1 := fun w => HOF.out (s.extract 0 q ++ b ++ s.extract q s.size) w hX1s
  rw [hX1] at hof1
  have HOF1 := Lib.hid hof1; clear hof1 hX1 hX1s
  go_region_held3 (fun w' => w'.cell? ⟨g, 0, none⟩ = some (.int .i64 (m.w : Nat)) ∧ w'.cell? ⟨g, 1, none⟩ = some (.int .u32 (m.p : Nat)) ∧ w'.cell? ⟨g, 2, none⟩ = some (.bool m.t) ∧ w'.cell? ⟨g, 3, none⟩ = some (.int .u32 (m.i : Nat)) ∧ w'.cell? ⟨g, 4, none⟩ = some (.int .u32 (m.o : Nat)) ∧ g < w'.heap.size ∧ Below w3.heap.size w3 w')
    (first
      | exact ⟨hc0, hc1, hc2, hc3, hc4, hlt, hB3.drew⟩
      | exact keepSum hbX (by assumption))
    (first
      | (go_at_call 17; ((with_reducible refine (HOF1.out _).mono ?_); rintro e w9 ⟨rfl, hbX⟩)))
  rename_i hHeld
  clear hc0 hc1 hc2 hc3 hc4 hlt hB3 hb5
  obtain ⟨hc0, hc1, hc2, hc3, hc4, hlt, hB3⟩ := hHeld
  by_cases hsz : other.size = b.size
  · by_cases hob : other.toList = b.toList
    · have hsI : (other.size : Int) = (b.size : Int) := by omega
      have hobb : (other.toList == b.toList) = true := by rw [hob]; simp
      go_wp2_with fail
      go_ret
      exact ⟨rfl, hbw.trans (hB3.mono hbw.size)⟩
    · have hsI : (other.size : Int) = (b.size : Int) := by omega
      have hobb : (other.toList == b.toList) = false := by rw [beq_eq_false_iff_ne]; exact hob
      go_wp2_with fail
      have hL3 : ¬ 9223372036854775807 < min q s.size + other.size := by omega
      have hL4 : ¬ 9223372036854775807 < min q s.size + other.size + (s.size - q) := by omega
      have hX2s : (s.extract 0 q ++ other ++ s.extract q s.size).size ≤ 140737488351232 := by
        have q1 := congrArg List.length (put_text s other q (by omega))
        rw [data_length, List.length_append, List.length_append, List.length_take, List.length_drop, data_length, data_length] at q1
        omega
      have hX2 : ofN m (s.extract 0 q ++ other ++ s.extract q s.size).data.toList ≠ W := by
        rw [put_text s other q (by omega)]
        intro e
        have e2 := (hFi other.data.toList (by rw [data_length]; exact hsz)).1 e
        apply hob
        rw [ByteArray.toList_eq, ByteArray.toList_eq, e2, hbdt]
      have hof2 := fun w => HOF.out (s.extract 0 q ++ other ++ s.extract q s.size) w hX2s
      generalize ofN m (s.extract 0 q ++ other ++ s.extract q s.size).data.toList = K2 at *
      have hKW : ((K2 : Int) == (W : Int)) = false := by rw [beq_eq_false_iff_ne]; omega
      have HOF2 := Lib.hid hof2; clear hof2 hX2s
      go_region_held3 (fun w' => w'.cell? ⟨g, 0, none⟩ = some (.int .i64 (m.w : Nat)) ∧ w'.cell? ⟨g, 1, none⟩ = some (.int .u32 (m.p : Nat)) ∧ w'.cell? ⟨g, 2, none⟩ = some (.bool m.t) ∧ w'.cell? ⟨g, 3, none⟩ = some (.int .u32 (m.i : Nat)) ∧ w'.cell? ⟨g, 4, none⟩ = some (.int .u32 (m.o : Nat)) ∧ g < w'.heap.size ∧ Below w3.heap.size w3 w')
        (first
          | exact ⟨hc0, hc1, hc2, hc3, hc4, hlt, hB3.drew⟩
          | exact keepSum hbX (by assumption))
        (first
          | (go_at_call 17; ((with_reducible refine (HOF2.out _).mono ?_); rintro e w9 ⟨rfl, hbX⟩)))
      rename_i hHeld
      clear hc0 hc1 hc2 hc3 hc4 hlt hB3
      obtain ⟨hc0, hc1, hc2, hc3, hc4, hlt, hB3⟩ := hHeld
      go_wp2_with fail
      go_ret
      refine ⟨ret_bool ?_, hbw.trans (hB3.mono hbw.size)⟩
      rw [bne, hKW]; rfl
  · have hsI : ¬ (other.size : Int) = (b.size : Int) := by omega
    go_wp2_with fail
    go_ret
    exact ⟨rfl, hbw.trans (hB3.mono hbw.size)⟩
end Go.Proofs.Ytdjddiajnalffaa
