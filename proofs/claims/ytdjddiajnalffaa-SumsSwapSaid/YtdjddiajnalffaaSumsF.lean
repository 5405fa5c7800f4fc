/- The walk of the law SumsSwap. -/
import Derived.Test.YtdjddiajnalffaaSumsE
namespace Go.Proofs.Ytdjddiajnalffaa
open Go.RowKit
set_option linter.unusedVariables false
set_option linter.unusedSimpArgs false
theorem swap_split (l : List UInt8) (k : Nat) (h : k + 1 < l.length) : l = l.take k ++ l.getD k 0 :: l.getD (k + 1) 0 :: l.drop (k + 2) := by
  have h1 : k < l.length := by omega
  rw [List.getD_eq_getElem?_getD, List.getElem?_eq_getElem h1, List.getD_eq_getElem?_getD, List.getElem?_eq_getElem h]
  conv => lhs; rw [← List.take_append_drop k l, List.drop_eq_getElem_cons h1, List.drop_eq_getElem_cons h]
  rfl
theorem swap_dist (x y : Nat) (hx : x < 2 ^ 8) (hy : y < 2 ^ 8) (D : Int) (hD : ((if x < y then (y : Int) else (x : Int)) - (if y < x then (y : Int) else (x : Int))) % 256 = D) :
    (x = y ∧ D = 0) ∨ (x ≠ y ∧ x % 255 = y % 255 ∧ D = 255) ∨ (x ≠ y ∧ x % 255 ≠ y % 255 ∧ D ≠ 0 ∧ D ≠ 255) := by
  split at hD <;> split at hD <;> omega
theorem swap_text (s : ByteArray) (k : Nat) (h : k + 1 < s.size) :
    (s.extract 0 k ++ s.extract (k + 1) (k + 2) ++ s.extract k (k + 1) ++ s.extract (k + 2) s.size).data.toList =
      s.data.toList.take k ++ s.data.toList.getD (k + 1) 0 :: s.data.toList.getD k 0 :: s.data.toList.drop (k + 2) := by
  have hl : s.data.toList.length = s.size := data_length s
  simp only [append_data, extract_data]
  generalize s.data.toList = l at *
  have h1 : k < l.length := by omega
  have h2 : k + 1 < l.length := by omega
  have e1 : l.getD k 0 = l[k] := by rw [List.getD_eq_getElem?_getD, List.getElem?_eq_getElem h1]; rfl
  have e2 : l.getD (k + 1) 0 = l[k + 1] := by rw [List.getD_eq_getElem?_getD, List.getElem?_eq_getElem h2]; rfl
  rw [e1, e2, List.drop_zero, List.take_of_length_le (show l.length ≤ s.size by omega), List.drop_take, List.drop_take, List.drop_eq_getElem_cons h2, List.drop_eq_getElem_cons h1]
  have e3 : k + 2 - (k + 1) = 1 := by omega
  have e4 : k + 1 - k = 1 := by omega
  rw [e3, e4]
  simp
  rw [List.drop_eq_getElem_cons h1, List.drop_eq_getElem_cons h2]
  rfl
set_option maxRecDepth 100000 in
set_option maxHeartbeats 1000000 in
theorem SumsSwap_walk (s : ByteArray) (a : Int) (hs : s.size ≤ 140737488351232) (_ : -9223372036854775808 ≤ a) (_ : a ≤ 9223372036854775807) (w : World) :
    Calls Try.prog 5 #[.string s, .int .i64 a] w fun e w' => e = .returned (.bool true) ∧ Below w.heap.size w w' := by
  by_cases h2 : s.size < 2
  · have h2' : (s.size : Int) < 2 := by omega
    go_enter Try.func5, Try.ntmps5
    go_wp2_with fail
    refine (summed_any _).mono ?_
    rintro e w1 ⟨rfl, hb1⟩
    go_wp2_with fail
    go_ret
    exact ⟨rfl, hb1⟩
  · by_cases h5 : 500 < s.size
    · have h2' : (2 : Int) ≤ (s.size : Int) := by omega
      have h5' : (500 : Int) < (s.size : Int) := by omega
      go_enter Try.func5, Try.ntmps5
      go_wp2_with fail
      refine (summed_any _).mono ?_
      rintro e w1 ⟨rfl, hb1⟩
      go_wp2_with fail
      go_ret
      exact ⟨rfl, hb1⟩
    · have h2' : (2 : Int) ≤ (s.size : Int) := by omega
      have h5' : (s.size : Int) ≤ 500 := by omega
      go_enter Try.func5, Try.ntmps5
      go_wp2_with fail
      refine (summed_any _).mono ?_
      rintro e w1 ⟨rfl, hb1⟩
      go_wp2_with fail
      refine (pick_at a _ (s.size - 1) _ (by omega) (by omega) (by omega)).mono ?_
      rintro e w2 ⟨rfl, rfl⟩
      have hk := pickN_lt a (s.size - 1) (by omega)
      generalize pickN a (s.size - 1) = k at *
      have hk1 : (k : Int) + 1 < (s.size : Int) := by omega
      have hk2 : (k : Int) + 2 ≤ (s.size : Int) := by omega
      have hw1 : IntKind.i64.wrap ((k : Int) + 1) = (k : Int) + 1 := IntWalk.i64_in _ ⟨by omega, by omega⟩
      have hw2 : IntKind.i64.wrap ((k : Int) + 2) = (k : Int) + 2 := IntWalk.i64_in _ ⟨by omega, by omega⟩
      have hk3 : (k : Int) ≤ (s.size : Int) := by omega
      have hk4 : (0 : Int) ≤ (k : Int) + 1 := by omega
      have hk5 : (0 : Int) ≤ (k : Int) + 2 := by omega
      go_wp2_with fail
      go_quiet (fail)
      go_wp2_with fail
      have hkk : k < s.size := by omega
      have hkk1 : k + 1 < s.size := by omega
      have hx := byteAt s k hkk
      have hy := byteAt s (k + 1) hkk1
      have hxl := UInt8.toNat_lt s[k]
      have hyl := UInt8.toNat_lt s[k + 1]
      have hk6 : (k : Int) < (s.size : Int) := by omega
      go_quiet (fail)
      have hx2 : s.data[k].toNat = (s.data.toList.getD k 0).toNat := congrArg UInt8.toNat hx
      have hy2 : s.data[k + 1].toNat = (s.data.toList.getD (k + 1) 0).toNat := congrArg UInt8.toNat hy
      have hxl2 : s.data[k].toNat < 2 ^ 8 := hxl
      have hyl2 : s.data[k + 1].toNat < 2 ^ 8 := hyl
      generalize s.data[k].toNat = x at *
      generalize s.data[k + 1].toNat = y at *
      generalize hD : ((if x < y then (y : Int) else (x : Int)) - (if y < x then (y : Int) else (x : Int))) % 256 = D
      have hcase := swap_dist x y hxl2 hyl2 D hD
      have ht := swap_text s k hkk1
      have hsp := swap_split s.data.toList k (by rw [data_length]; exact hkk1)
      have htl : (s.extract 0 k ++ s.extract (k + 1) (k + 2) ++ s.extract k (k + 1) ++ s.extract (k + 2) s.size).size ≤ 500 := by
        have q := congrArg List.length ht
        rw [data_length] at q
        rw [q, List.length_append, List.length_cons, List.length_cons, List.length_take, List.length_drop, data_length]
        omega
      generalize s.extract 0 k ++ s.extract (k + 1) (k + 2) ++ s.extract k (k + 1) ++ s.extract (k + 2) s.size = t at *
      have hA := ad_swap 65521 1 16 (s.data.toList.take k) (s.data.toList.drop (k + 2)) (s.data.toList.getD k 0) (s.data.toList.getD (k + 1) 0) (by decide) (by decide)
      have hB := ad_swap 255 0 8 (s.data.toList.take k) (s.data.toList.drop (k + 2)) (s.data.toList.getD k 0) (s.data.toList.getD (k + 1) 0) (by decide) (by decide)
      rw [← hsp, ← ht, ← hx2, ← hy2, Nat.mod_eq_of_lt (by omega), Nat.mod_eq_of_lt (by omega)] at hA
      rw [← hsp, ← ht, ← hx2, ← hy2] at hB
      clear hD ht hsp hx hy hx2 hy2
      have a1 := fun w => Adler_any s w hs
      have a2 := fun w => Adler_any t w (by omega)
      have b1 := fun w => Fletcher_any s w hs
      have b2 := fun w => Fletcher_any t w (by omega)
      generalize adN 65521 1 16 s.data.toList = A1 at *
      generalize adN 65521 1 16 t.data.toList = A2 at *
      generalize adN 255 0 8 s.data.toList = B1 at *
      generalize adN 255 0 8 t.data.toList = B2 at *
      have hfin : ∀ n m : Nat, Below w.heap.size w ((w1.drewN n).drewN m) := fun n m => bdrewN (bdrewN hb1 n) m
      generalize (if x < y then (y : Int) else (x : Int)) = mx
      generalize (if y < x then (y : Int) else (x : Int)) = mn
      rcases hcase with ⟨h1, h2⟩ | ⟨h1, h2, h3⟩ | ⟨h1, h2, h3, h4⟩
      · have q1 : ((A1 : Int) == (A2 : Int)) = true := by have := hA.2 h1; simp [this]
        have q2 : ((B1 : Int) == (B2 : Int)) = true := by have := hB.2 (by rw [h1]); simp [this]
        have q3 : (D == 0) = true := by simp [h2]
        go_wp2_with fail
        refine (a1 _).mono ?_
        rintro e w2 ⟨rfl, rfl⟩
        go_wp2_with fail
        refine (a2 _).mono ?_
        rintro e w2 ⟨rfl, rfl⟩
        go_wp2_with fail
        refine (b1 _).mono ?_
        rintro e w2 ⟨rfl, rfl⟩
        go_wp2_with fail
        refine (b2 _).mono ?_
        rintro e w2 ⟨rfl, rfl⟩
        go_wp2_with fail
        go_ret
        exact ⟨rfl, bdrewN hb1 _⟩
      · have n1 : A1 ≠ A2 := fun q => h1 (hA.1 q)
        have q1 : ((A1 : Int) == (A2 : Int)) = false := by simp only [beq_eq_false_iff_ne]; omega
        have q2 : ((B1 : Int) == (B2 : Int)) = true := by have := hB.2 h2; simp [this]
        have q3 : (D == 0) = false := by simp [h3]
        have q4 : (D == 255) = true := by simp [h3]
        go_wp2_with fail
        refine (a1 _).mono ?_
        rintro e w2 ⟨rfl, rfl⟩
        go_wp2_with fail
        refine (a2 _).mono ?_
        rintro e w2 ⟨rfl, rfl⟩
        go_wp2_with fail
        refine (b1 _).mono ?_
        rintro e w2 ⟨rfl, rfl⟩
        go_wp2_with fail
        refine (b2 _).mono ?_
        rintro e w2 ⟨rfl, rfl⟩
        go_wp2_with fail
        go_ret
        exact ⟨rfl, bdrewN hb1 _⟩
      · have n1 : A1 ≠ A2 := fun q => h1 (hA.1 q)
        have n2 : B1 ≠ B2 := fun q => h2 (hB.1 q)
        have q1 : ((A1 : Int) == (A2 : Int)) = false := by simp only [beq_eq_false_iff_ne]; omega
        have q2 : ((B1 : Int) == (B2 : Int)) = false := by simp only [beq_eq_false_iff_ne]; omega
        have q3 : (D == 0) = false := by simp [h3]
        have q4 : (D == 255) = false := by simp [h4]
        go_wp2_with fail
        refine (a1 _).mono ?_
        rintro e w2 ⟨rfl, rfl⟩
        go_wp2_with fail
        refine (a2 _).mono ?_
        rintro e w2 ⟨rfl, rfl⟩
        go_wp2_with fail
        refine (b1 _).mono ?_
        rintro e w2 ⟨rfl, rfl⟩
        go_wp2_with fail
        refine (b2 _).mono ?_
        rintro e w2 ⟨rfl, rfl⟩
        go_wp2_with fail
        go_ret
        exact ⟨rfl, bdrewN hb1 _⟩
end Go.Proofs.Ytdjddiajnalffaa
