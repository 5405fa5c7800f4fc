/- Contracts of package sums: Right, out, Of; and of the law's own makers. -/
import Derived.Test.YtdjddiajnalffaaSumsA
import Derived.Test.YtdjddiajnalffaaInfo
import Derived.Test.YtdjddiajnalffaaPick
namespace Go.Proofs.Ytdjddiajnalffaa
open Go.RowKit
set_option linter.unusedVariables false
set_option linter.unusedSimpArgs false
theorem odd_form (p : Nat) (h : p < 4294967296) (ho : p % 2 = 1) : bits .and .u32 (p : Int) 1 = 1 := by
  rw [and_one32 p h, ho]; rfl
set_option maxRecDepth 100000 in
theorem Right_yes (m : SumP) (w : World) (hm : m.Ok) :
    Calls Try.prog 47 #[sumVal m] w fun e w' => e = .returned (.bool true) ∧ Below w.heap.size w w' := by
  rcases m with ⟨wd, p, t, ini, o⟩
  obtain ⟨hw, hp, hodd, hi, ho⟩ := hm
  simp only at hw hp hodd hi ho
  unfold sumVal sumCells
  rcases hw with rfl | rfl | rfl
  all_goals
    simp only [Nat.reducePow] at hp hi ho
    have hod := odd_form p (by omega) hodd
    go_enter Try.func47, Try.ntmps47
    go_wp2_with fail
    go_ret
    first | exact ⟨rfl, (Below.refl _ _).alloc (Nat.le_refl _) _⟩ | exact ⟨ret_bool (decide_eq_true (by omega)), (Below.refl _ _).alloc (Nat.le_refl _) _⟩
set_option maxRecDepth 100000 in
theorem out_any (m : SumP) (r : Nat) (w : World) (hm : m.Ok) (hr : r < 2 ^ m.w) :
    Calls Try.prog 61 #[sumVal m, .int .u32 r] w fun e w' => e = .returned (.int .u32 (outN m r : Nat)) ∧ Below w.heap.size w w' := by
  have hl := w_le m hm
  rcases m with ⟨wd, p, t, ini, o⟩
  obtain ⟨hw, hp, hodd, hi, ho⟩ := hm
  simp only at hw hp hodd hi ho hr hl
  unfold sumVal sumCells outN
  simp only
  cases t
  · have hx := u32_xor_nat r o (by omega) (by omega)
    simp only [Bool.false_eq_true, if_false]
    generalize r ^^^ o = R at *
    go_enter Try.func61, Try.ntmps61
    go_wp2_with fail
    go_ret
    exact ⟨rfl, (Below.refl _ _).alloc (Nat.le_refl _) _⟩
  · have ht := turnTo_lt r wd
    have hx := u32_xor_nat (turnTo r wd) o (by omega) (by omega)
    have htu := fun w => turned_any r wd w (by omega) (by omega)
    simp only [if_true]
    generalize turnTo r wd ^^^ o = R at *
    generalize turnTo r wd = T at *
    have HTU := Lib.hid htu; clear htu
    go_enter Try.func61, Try.ntmps61
    go_wp2_with fail
    refine (HTU.out _).mono ?_
    rintro e w1 ⟨rfl, rfl⟩
    go_wp2_with fail
    go_ret
    exact ⟨rfl, (Below.refl _ _).alloc (Nat.le_refl _) _⟩
set_option maxRecDepth 100000 in
theorem Of_any (m : SumP) (s : ByteArray) (w : World) (hm : m.Ok) (hs : s.size ≤ 140737488351232) :
    Calls Try.prog 45 #[sumVal m, .string s] w fun e w' => e = .returned (.tuple #[.int .u32 (ofN m s.data.toList : Nat), .nilIface]) ∧ Below w.heap.size w w' := by
  have hlen : s.data.toList.length = s.size := data_length s
  generalize hl : s.data.toList = l at *
  have HL := Lib.hid hl; clear hl
  unfold sumVal sumCells
  go_enter Try.func45, Try.ntmps45
  go_wp2_with fail
  refine (Right_yes m _ hm).mono ?_
  rintro e w1 ⟨rfl, hb1⟩
  have hrow := (RowAt.new w 25 (sumCells m)).below hb1 (by simp [sumCells])
  have hb := ((Below.refl w.heap.size w).alloc (Nat.le_refl _) (.cells (sumCells m) 25)).trans (hb1.mono (by simp [sumCells]))
  clear hb1
  have hc3 := hrow.cell0 3 (by simp [sumCells])
  simp only [sumCells, List.getElem_cons_zero, List.getElem_cons_succ] at hc3
  generalize hB : w.heap.size = B at *
  have HB := Lib.hid hB; clear hB
  go_wp2_with fail
  go_loopw [6, 16] (fun v i wr => ∃ k : Nat, k ≤ s.size ∧ i = .int .i64 k ∧ v = .int .u32 (foldN m m.i (l.take k) : Nat) ∧ RowAt wr B 0 25 (sumCells m).toList ∧ Below B w wr) (fun v i _ => s.size - (intOf i).toNat)
  case atStart => exact ⟨0, by omega, rfl, rfl, hrow, hb⟩
  case round =>
    clear hrow hb hc3
    obtain ⟨k, hk, rfl, rfl, hrow, hb⟩ := hrel
    have hfl := foldN_lt m hm (l.take k) m.i hm.i
    have hwl := w_le m hm
    have hlB := hrow.lt
    generalize hR : foldN m m.i (l.take k) = R at *
    have HR := Lib.hid hR; clear hR
    by_cases hlt : k < s.size
    · have hc0 := hrow.cell0 0 (by simp [sumCells])
      have hc1 := hrow.cell0 1 (by simp [sumCells])
      have hc2 := hrow.cell0 2 (by simp [sumCells])
      have hc3 := hrow.cell0 3 (by simp [sumCells])
      have hc4 := hrow.cell0 4 (by simp [sumCells])
      simp only [sumCells, List.getElem_cons_zero, List.getElem_cons_succ] at hc0 hc1 hc2 hc3 hc4
      have hsn := foldN_take m m.i l k (by omega)
      rw [HR.out] at hsn
      have hb8 : (l.getD k 0).toNat < 256 := UInt8.toNat_lt _
      have hbe : s[k].toNat = (l.getD k 0).toNat := by rw [byteAt s k hlt, HL.out]
      generalize (l.getD k 0).toNat = c at *
      have HBE := Lib.hid hbe; clear hbe
      have HSN := Lib.hid hsn; clear hsn
      go_wp2_with fail
      go_still_tail 5, (by kernel_rfl)
      change wpList _ _ _ _ _ wr.drew
      go_wp2_with fail
      rw [HBE.out]
      refine (step_any m R c _ hm hfl hb8).mono ?_
      rintro e w2 ⟨rfl, hb2⟩
      go_wp2_with fail
      go_roundw
      case rel => exact ⟨k + 1, by omega, by go_num, by rw [HSN.out], hrow.drew.below hb2 hlB, hb.drew.trans (hb2.mono (Nat.le_of_lt hlB))⟩
      case measure => simp [intOf]; omega
    · obtain rfl : k = s.size := by omega
      have hc0 := hrow.cell0 0 (by simp [sumCells])
      have hc1 := hrow.cell0 1 (by simp [sumCells])
      have hc2 := hrow.cell0 2 (by simp [sumCells])
      have hc3 := hrow.cell0 3 (by simp [sumCells])
      have hc4 := hrow.cell0 4 (by simp [sumCells])
      simp only [sumCells, List.getElem_cons_zero, List.getElem_cons_succ] at hc0 hc1 hc2 hc3 hc4
      go_wp2_with fail
      refine (out_any m R _ hm hfl).mono ?_
      rintro e w2 ⟨rfl, hb2⟩
      go_wp2_with fail
      go_ret2
      refine ⟨?_, by rw [HB.out]; exact hb.trans (hb2.mono (Nat.le_of_lt hlB))⟩
      have hR2 : R = foldN m m.i l := by rw [← HR.out, ← hlen, List.take_length]
      rw [ofN, ← hR2]
      rfl
end Go.Proofs.Ytdjddiajnalffaa
