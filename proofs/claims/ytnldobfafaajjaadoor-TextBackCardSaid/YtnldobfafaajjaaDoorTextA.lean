/- text.begun. -/
import Derived.Test.YtnldobfafaajjaaDoorPlainText
import Derived.Test.YtnldobfafaajjaaDoorCommon
import Derived.Test.YtnldobfafaajjaaDoorMem
import Derived.Test.YtnldobfafaajjaaDoorOwn
import Derived.Test.YtnldobfafaajjaaDoorShelfU8
namespace Go.Proofs.YtnldobfafaajjaaDoor
open Go.RowKit Go.Shelf
set_option linter.unusedVariables false
set_option linter.unusedSimpArgs false
attribute [local go_sem] Oper.semAt_some
theorem Txt.bstr_get (l : List UInt8) (k : Nat) (h : k < (bstr l).size) : (bstr l)[k]'h = l.getD k 0 := by
  have h2 : k < l.length := by rwa [bstr_size] at h
  rw [List.getD_eq_getElem?_getD, List.getElem?_eq_getElem h2]
  rfl
open Txt in
set_option maxRecDepth 100000 in
set_option maxHeartbeats 4000000 in
theorem begun_any (l : List UInt8) (hl : l ≠ []) (h9 : l.length ≤ 100000) (w : World) :
    Calls Tryd.prog 38 #[.string (bstr l)] w fun e w' => e = .returned (.int .i64 (beg l : Nat)) ∧ w = w' := by
  have hlen : 0 < l.length := List.length_pos_iff.2 hl
  obtain ⟨c, hc⟩ : ∃ c, c = bt l 0 := ⟨_, rfl⟩
  have hc256 : c < 256 := by rw [hc]; exact bt_lt _ _
  have hx : ∀ k (h : k < (bstr l).size), ((bstr l)[k]'h).toNat = bt l k := fun k h => by rw [bstr_get]; rfl
  have hx0 : ∀ (h : 0 < (bstr l).size), ((bstr l)[0]'h).toNat = c := fun h => by rw [hx 0 h, hc]
  have cls : (c < 194 ∧ most c = 1) ∨ (194 ≤ c ∧ c ≤ 223 ∧ most c = 2) ∨ (c = 224 ∧ most c = 3) ∨ (c = 237 ∧ most c = 3) ∨ (224 < c ∧ c ≤ 239 ∧ c ≠ 237 ∧ most c = 3) ∨ (c = 240 ∧ most c = 4) ∨ (c = 244 ∧ most c = 4) ∨ (240 < c ∧ c < 244 ∧ most c = 4) ∨ (244 < c ∧ most c = 1) := by
    unfold most
    rcases (by omega : c < 194 ∨ (194 ≤ c ∧ c ≤ 223) ∨ c = 224 ∨ c = 237 ∨ (224 < c ∧ c ≤ 239 ∧ c ≠ 237) ∨ c = 240 ∨ c = 244 ∨ (240 < c ∧ c < 244) ∨ 244 < c) with h | h | h | h | h | h | h | h | h
    · exact .inl ⟨h, by rw [if_neg (by omega), if_neg (by omega), if_neg (by omega)]⟩
    · exact .inr (.inl ⟨h.1, h.2, by rw [if_pos (by omega)]⟩)
    · exact .inr (.inr (.inl ⟨h, by rw [if_neg (by omega), if_pos (by omega)]⟩))
    · exact .inr (.inr (.inr (.inl ⟨h, by rw [if_neg (by omega), if_pos (by omega)]⟩)))
    · exact .inr (.inr (.inr (.inr (.inl ⟨h.1, h.2.1, h.2.2, by rw [if_neg (by omega), if_pos (by omega)]⟩))))
    · exact .inr (.inr (.inr (.inr (.inr (.inl ⟨h, by rw [if_neg (by omega), if_neg (by omega), if_pos (by omega)]⟩)))))
    · exact .inr (.inr (.inr (.inr (.inr (.inr (.inl ⟨h, by rw [if_neg (by omega), if_neg (by omega), if_pos (by omega)]⟩))))))
    · exact .inr (.inr (.inr (.inr (.inr (.inr (.inr (.inl ⟨h.1, h.2, by rw [if_neg (by omega), if_neg (by omega), if_pos (by omega)]⟩)))))))
    · exact .inr (.inr (.inr (.inr (.inr (.inr (.inr (.inr ⟨h, by rw [if_neg (by omega), if_neg (by omega), if_neg (by omega)]⟩)))))))
  have HC := Lib.hid hc
  have HX := Lib.hid hx
  clear hc hl hx
  rcases cls with ⟨h1, hM⟩ | ⟨h1, h2, hM⟩ | ⟨h1, hM⟩ | ⟨h1, hM⟩ | ⟨h1, h2, h3, hM⟩ | ⟨h1, hM⟩ | ⟨h1, hM⟩ | ⟨h1, h2, hM⟩ | ⟨h1, hM⟩
  all_goals
    (first | have q1 : decide ((194 : Int) ≤ (c : Int)) = true := decide_eq_true (by omega) | have q1 : decide ((194 : Int) ≤ (c : Int)) = false := decide_eq_false (by omega))
    (first | have q2 : decide ((c : Int) ≤ 223) = true := decide_eq_true (by omega) | have q2 : decide ((c : Int) ≤ 223) = false := decide_eq_false (by omega))
    (first | have q3 : decide ((224 : Int) ≤ (c : Int)) = true := decide_eq_true (by omega) | have q3 : decide ((224 : Int) ≤ (c : Int)) = false := decide_eq_false (by omega))
    (first | have q4 : decide ((c : Int) ≤ 239) = true := decide_eq_true (by omega) | have q4 : decide ((c : Int) ≤ 239) = false := decide_eq_false (by omega))
    (first | have q5 : ((c : Int) == 224) = true := (by rw [beq_iff_eq]; omega) | have q5 : ((c : Int) == 224) = false := (by rw [beq_eq_false_iff_ne]; omega))
    (first | have q6 : ((c : Int) == 237) = true := (by rw [beq_iff_eq]; omega) | have q6 : ((c : Int) == 237) = false := (by rw [beq_eq_false_iff_ne]; omega))
    (first | have q7 : decide ((240 : Int) ≤ (c : Int)) = true := decide_eq_true (by omega) | have q7 : decide ((240 : Int) ≤ (c : Int)) = false := decide_eq_false (by omega))
    (first | have q8 : decide ((c : Int) ≤ 244) = true := decide_eq_true (by omega) | have q8 : decide ((c : Int) ≤ 244) = false := decide_eq_false (by omega))
    (first | have q9 : ((c : Int) == 240) = true := (by rw [beq_iff_eq]; omega) | have q9 : ((c : Int) == 240) = false := (by rw [beq_eq_false_iff_ne]; omega))
    (first | have q10 : ((c : Int) == 244) = true := (by rw [beq_iff_eq]; omega) | have q10 : ((c : Int) == 244) = false := (by rw [beq_eq_false_iff_ne]; omega))
    have HM := Lib.hid hM
    clear hM
    go_enter Tryd.func38, Tryd.ntmps38
    go_wp2_with fail
    clear q1 q2 q3 q4 q5 q6 q7 q8 q9 q10
    go_loop [3, 4, 7] (fun v3 v4 v7 => ∃ (k : Nat) (lo hi : Int), 1 ≤ k ∧ k ≤ 4 ∧ k ≤ l.length ∧ v7 = .int .i64 k ∧ v3 = .int .u8 lo ∧ v4 = .int .u8 hi ∧ Hid (lo = ((if k = 1 then low c else 128 : Nat) : Int)) ∧ Hid (hi = ((if k = 1 then high c else 191 : Nat) : Int)) ∧ Hid (∀ j, 1 ≤ j → j < k → okAt l j)) (fun _ _ v7 => 4 - (intOf v7).toNat)
    case atStart =>
      refine ⟨1, _, _, by omega, by omega, by omega, rfl, rfl, rfl, Lib.hid ?_, Lib.hid ?_, Lib.hid (fun j h1 h2 => by omega)⟩
      · rw [if_pos rfl]; unfold low; split <;> (try split) <;> omega
      · rw [if_pos rfl]; unfold high; split <;> (try split) <;> omega
    case round =>
      obtain ⟨k, lo, hi, hk1, hk4, hkl, rfl, rfl, rfl, HLO, HHI, HALL⟩ := hrel
      have hstop := fun (h : ¬ okAt l k) => beg_stop l k hk1 hk4 HALL.out h
      have hok : okAt l k ↔ (k < most c ∧ k < l.length ∧ lo ≤ (bt l k : Int) ∧ (bt l k : Int) ≤ hi) := by
        rw [HLO.out, HHI.out]
        unfold okAt
        rw [← HC.out]
        constructor
        · rintro ⟨a, b, c, d⟩; exact ⟨a, b, by omega, by omega⟩
        · rintro ⟨a, b, c, d⟩; exact ⟨a, b, by omega, by omega⟩
      have hall2 : okAt l k → ∀ j, 1 ≤ j → j < k + 1 → okAt l j := fun h j h1 h2 => by
        rcases (by omega : j < k ∨ j = k) with h3 | h3
        · exact HALL.out j h1 h3
        · rw [h3]; exact h
      rw [HM.out] at hok
      have hm4 : okAt l k → k ≤ 3 := fun h => by have := hok.1 h; omega
      have HST := Lib.hid hstop; have HA2 := Lib.hid hall2; have HM4 := Lib.hid hm4
      have hxk : ∀ h : k < (bstr l).size, ((bstr l)[k]'h).toNat = bt l k := HX.out k
      clear hstop hall2 hm4
      by_cases c1 : okAt l k
      · obtain ⟨a1, a2, a3, a4⟩ := hok.1 c1
        have i1 := Int.ofNat_lt.2 a1
        have i2 : (k : Int) < (l.length : Int) := by omega
        have i3 := HM4.out c1
        have h2 := HA2.out c1
        have H2 := Lib.hid h2
        clear h2 hok c1
        push_cast at i1
        go_wp2_with fail
        go_round
        case rel =>
          refine ⟨k + 1, 128, 191, by omega, by omega, by omega, by go_num, rfl, rfl, Lib.hid ?_, Lib.hid ?_, H2⟩
          · rw [if_neg (by omega)]; rfl
          · rw [if_neg (by omega)]; rfl
        case measure => simp [intOf]; omega
      · have hk := HST.out c1
        have HK := Lib.hid hk
        rw [hok] at c1
        clear hk hok
        have HC1 := Lib.hid c1
        clear c1
        go_wp2_with fail
        all_goals first
          | (exfalso; exact HC1.out ⟨by omega, by omega, by omega, by omega⟩)
          | (go_ret; refine ⟨?_, rfl⟩; rw [HK.out]; rfl)
end Go.Proofs.YtnldobfafaajjaaDoor
