/- Contracts of package find: Borders, Read. -/
import Derived.Test.YtkahceijhokmoaaFindA
namespace Go.Proofs.Ytkahceijhokmoaa
open Go.RowKit
set_option linter.unusedVariables false
set_option linter.unusedSimpArgs false
set_option maxRecDepth 100000 in
theorem Borders_any (p : ByteArray) (w : World) (hp : p.size ≤ 1000) (hp1 : 1 ≤ p.size) :
    Calls Try.prog 13 #[.string p] w fun e w' =>
      e = .returned (.slice (some ⟨w.heap.size, 1, none⟩) p.size p.size) ∧ RowAt w' w.heap.size 1 3 (ivals ((Kmp.brds p.data.toList).drop 1)) ∧ Below w.heap.size w w' ∧ w.heap.size < w'.heap.size := by
  have hlen : p.data.toList.length = p.size := data_length p
  generalize hl : p.data.toList = l at *
  have hbor := fun w => borders_any p w hp
  rw [hl] at hbor
  have HL := Lib.hid hl; clear hl
  have HLEN := Lib.hid hlen; clear hlen
  have HBOR := Lib.hid hbor; clear hbor
  have hpe : ¬ p = ByteArray.empty := by rintro rfl; simp at hp1
  have hpz : ¬ p.size = 0 := by omega
  go_enter Try.func13, Try.ntmps13
  go_wp2_with fail
  refine (HBOR.out _).mono ?_
  rintro e w1 ⟨rfl, hrow, hb, hsz⟩
  go_wp2_with fail
  go_ret
  refine ⟨rfl, ?_, hb, hsz⟩
  have h := hrow.part 1 p.size
  have e : (ivals (Kmp.brds l)).length = p.size + 1 := by rw [ivals_length, Kmp.brds_length, HLEN.out]
  rw [List.take_of_length_le (by rw [List.length_drop, e]; omega), Nat.zero_add] at h
  simpa [ivals] using h
namespace Find
/-- a half byte more -/
def readB (m : List Int) (c : Nat) : Option (List Int) :=
  if c = 32 ∧ m.length % 2 = 0 then some m
  else if c = 63 then some (m ++ [-1])
  else if 48 ≤ c ∧ c ≤ 57 then some (m ++ [(c : Int) - 48])
  else if 97 ≤ c ∧ c ≤ 102 then some (m ++ [(c : Int) - 97 + 10])
  else none
def readTo : List UInt8 → List Int → Option (List Int)
  | [], m => some m
  | c :: l, m => (readB m c.toNat).bind (readTo l)
theorem readTo_drop (l : List UInt8) (k : Nat) (h : k < l.length) (m : List Int) : readTo (l.drop k) m = (readB m (l.getD k 0).toNat).bind (readTo (l.drop (k + 1))) := by
  rw [List.drop_eq_getElem_cons h, List.getD_eq_getElem?_getD, List.getElem?_eq_getElem h]
  rfl
end Find
set_option maxRecDepth 100000 in
set_option maxHeartbeats 1000000 in
theorem Read_yes (s : ByteArray) (R : List Int) (w : World) (hs : s.size ≤ 1000) (hr : Find.readTo s.data.toList [] = some R) (h0 : 1 ≤ R.length) (h2 : R.length % 2 = 0) :
    Calls Try.prog 11 #[.string s] w fun e w' => ∃ a cap,
      e = .returned (.tuple #[.slice a R.length cap, .nilIface]) ∧ Owns w' w.heap.size 3 1 a R.length cap (ivals R) ∧ Below w.heap.size w w' := by
  have hsl : s.data.toList.length = s.size := data_length s
  obtain ⟨l, hl⟩ : ∃ l, l = s.data.toList := ⟨_, rfl⟩
  rw [← hl] at hsl hr
  have HL := Lib.hid hl; clear hl
  have HSL := Lib.hid hsl; clear hsl
  have HR := Lib.hid hr; clear hr
  go_enter Try.func11, Try.ntmps11
  go_wp2_with fail
  go_loopw [4, 9] (fun out i wr => ∃ (k : Nat) (M : List Int) (a : Option Addr) (cap : Nat), k ≤ s.size ∧ i = .int .i64 k ∧ out = .slice a M.length cap ∧ Hid (Find.readTo (l.drop k) M = some R) ∧ M.length ≤ k ∧
      Owns wr w.heap.size 3 1 a M.length cap (ivals M) ∧ Below w.heap.size w wr) (fun _ i _ => s.size - (intOf i).toNat)
  case atStart => exact ⟨0, [], none, 0, by omega, rfl, rfl, by simpa using HR, by simp, Owns.nil _ _ _ _, Below.refl _ _⟩
  case round =>
    clear HR
    obtain ⟨k, M, a, cap, hk, rfl, rfl, HR, hM, hown, hb⟩ := hrel
    have hbs := hb.size
    by_cases hlt : k < s.size
    · have hrd := HR.out
      rw [Find.readTo_drop l k (by rw [HSL.out]; exact hlt)] at hrd
      have hbq : s[k].toNat = (l.getD k 0).toNat := by rw [byteAt s k hlt, HL.out]
      rw [← hbq] at hrd
      have hb8 : s[k].toNat < 256 := UInt8.toNat_lt _
      clear hbq
      have hkI : (k : Int) < (s.size : Int) := by omega
      have HRD := Lib.hid hrd; clear hrd
      by_cases h1 : s[k].toNat = 32 ∧ M.length % 2 = 0
      · have hrd := HRD.out
        unfold Find.readB at hrd
        rw [if_pos h1] at hrd
        have HRD := Lib.hid hrd; clear hrd
        have e1 : ((s[k].toNat : Int) == 32) = true := by rw [beq_iff_eq]; omega
        have e2 : ((M.length : Int) % 2 == 0) = true := by rw [beq_iff_eq]; omega
        clear h1
        go_wp2_with fail
        go_round
        case rel => exact ⟨k + 1, M, a, cap, by omega, by go_num, rfl, HRD, by omega, hown, hb⟩
        case measure => simp [intOf]; omega
      · have h32 : s[k].toNat ≠ 32 := by
          intro h
          have hrd := HRD.out
          unfold Find.readB at hrd
          rw [if_neg h1, if_neg (by omega), if_neg (by omega), if_neg (by omega)] at hrd
          cases hrd
        clear h1
        have e1 : ((s[k].toNat : Int) == 32) = false := by rw [beq_eq_false_iff_ne]; omega
        by_cases h63 : s[k].toNat = 63
        · have hrd := HRD.out
          unfold Find.readB at hrd
          rw [if_neg (by omega), if_pos h63] at hrd
          have HRD := Lib.hid hrd; clear hrd
          have e2 : ((s[k].toNat : Int) == 63) = true := by rw [beq_iff_eq]; omega
          clear h63 h32
          go_wp2_with (with_reducible refine wpList_push _ rfl _ _ 39 rfl w.heap.size 3 (.int .i64 0) 1 8 Try.underlying39 infoInt rfl (by decide) a M.length cap _ rfl hown [.int .i64 (-1)] rfl (by simp [Value.oneCell']) rfl (by unfold maxLen; omega) (by omega) hbs ?_; intro a' cap' w' hown' hgrow hloc hsz' hex)
          have hlen' : (M ++ [-1]).length = M.length + 1 := by simp
          go_roundw
          case rel => exact ⟨k + 1, M ++ [-1], a', cap', by omega, by go_num, by rw [hlen'], HRD, by omega, by rw [hlen', ← ivals_snoc]; exact hown', below_blk hb hown (Nat.le_refl _) hbs hgrow⟩
          case measure => simp [intOf]; omega
        · have e2 : ((s[k].toNat : Int) == 63) = false := by rw [beq_eq_false_iff_ne]; omega
          by_cases hd : 48 ≤ s[k].toNat ∧ s[k].toNat ≤ 57
          · have hrd := HRD.out
            unfold Find.readB at hrd
            rw [if_neg (by omega), if_neg h63, if_pos hd] at hrd
            have HRD := Lib.hid hrd; clear hrd
            obtain ⟨hd1, hd2⟩ := hd
            have e3 : decide ((48 : Int) ≤ (s[k].toNat : Int)) = true := by rw [decide_eq_true_eq]; omega
            have e4 : decide ((s[k].toNat : Int) ≤ 57) = true := by rw [decide_eq_true_eq]; omega
            clear h63 h32
            go_wp2_with (with_reducible refine wpList_push _ rfl _ _ 39 rfl w.heap.size 3 (.int .i64 0) 1 8 Try.underlying39 infoInt rfl (by decide) a M.length cap _ rfl hown [.int .i64 ((s[k].toNat : Int) - 48)] rfl (by simp [Value.oneCell']) rfl (by unfold maxLen; omega) (by omega) hbs ?_; intro a' cap' w' hown' hgrow hloc hsz' hex)
            have hlen' : (M ++ [(s[k].toNat : Int) - 48]).length = M.length + 1 := by simp
            go_roundw
            case rel => exact ⟨k + 1, M ++ [(s[k].toNat : Int) - 48], a', cap', by omega, by go_num, by rw [hlen'], HRD, by omega, by rw [hlen', ← ivals_snoc]; exact hown', below_blk hb hown (Nat.le_refl _) hbs hgrow⟩
            case measure => simp [intOf]; omega
          · by_cases hf : 97 ≤ s[k].toNat ∧ s[k].toNat ≤ 102
            · have hrd := HRD.out
              unfold Find.readB at hrd
              rw [if_neg (by omega), if_neg h63, if_neg hd, if_pos hf] at hrd
              have HRD := Lib.hid hrd; clear hrd
              obtain ⟨hd1, hd2⟩ := hf
              have e3 : decide ((48 : Int) ≤ (s[k].toNat : Int)) = true := by rw [decide_eq_true_eq]; omega
              have e4 : decide ((s[k].toNat : Int) ≤ 57) = false := by rw [decide_eq_false_iff_not]; omega
              have e5 : decide ((97 : Int) ≤ (s[k].toNat : Int)) = true := by rw [decide_eq_true_eq]; omega
              have e6 : decide ((s[k].toNat : Int) ≤ 102) = true := by rw [decide_eq_true_eq]; omega
              clear h63 h32 hd
              go_wp2_with (with_reducible refine wpList_push _ rfl _ _ 39 rfl w.heap.size 3 (.int .i64 0) 1 8 Try.underlying39 infoInt rfl (by decide) a M.length cap _ rfl hown [.int .i64 ((s[k].toNat : Int) - 97 + 10)] rfl (by simp [Value.oneCell']) rfl (by unfold maxLen; omega) (by omega) hbs ?_; intro a' cap' w' hown' hgrow hloc hsz' hex)
              have hlen' : (M ++ [(s[k].toNat : Int) - 97 + 10]).length = M.length + 1 := by simp
              go_roundw
              case rel => exact ⟨k + 1, M ++ [(s[k].toNat : Int) - 97 + 10], a', cap', by omega, by go_num, by rw [hlen'], HRD, by omega, by rw [hlen', ← ivals_snoc]; exact hown', below_blk hb hown (Nat.le_refl _) hbs hgrow⟩
              case measure => simp [intOf]; omega
            · exfalso
              have hrd := HRD.out
              unfold Find.readB at hrd
              rw [if_neg (by omega), if_neg h63, if_neg hd, if_neg hf] at hrd
              cases hrd
    · obtain rfl : k = s.size := by omega
      have hRM : M = R := by
        have := HR.out
        rw [List.drop_of_length_le (by rw [HSL.out]; exact Nat.le_refl _)] at this
        simpa [Find.readTo] using this
      subst hRM
      have hd : decide ((s.size : Int) < (s.size : Int)) = false := by simp
      have e1 : ((M.length : Int) == 0) = false := by rw [beq_eq_false_iff_ne]; omega
      have e2 : ((M.length : Int) % 2 == 1) = false := by rw [beq_eq_false_iff_ne]; omega
      go_wp2_with fail
      go_ret2
      exact ⟨a, cap, rfl, hown, hb⟩
end Go.Proofs.Ytkahceijhokmoaa
