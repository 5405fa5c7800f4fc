/- Contracts of tmpl.name, tmpl.rule. -/
import Derived.Test.YtlomecfhobehnaaGreatDoorMgLayoutBack10
import Derived.Test.YtlomecfhobehnaaGreatDoorMgLayoutBack12
section
/- Contracts of tmpl.kind, tmpl.kept. -/
namespace Go.Proofs.YtlomecfhobehnaaGreatDoor
open Go.RowKit
set_option linter.unusedVariables false
set_option linter.unusedSimpArgs false
open Rd
theorem str_drop2 (l : List UInt8) (j : Nat) : (bstr l).extract j l.length = bstr (l.drop j) := by
  apply ByteArray.ext
  apply Array.ext'
  rw [ByteArray.data_extract, Array.toList_extract]
  show List.extract l j l.length = l.drop j
  rw [List.extract_eq_take_drop]
  exact List.take_of_length_le (by rw [List.length_drop]; exact Nat.le_refl _)
set_option maxRecDepth 100000 in
theorem suf_in (l : List UInt8) (w : World) (h2 : 2 ≤ l.length) (h9 : l.length ≤ 100) : Calls Tryz.prog 151 #[.string (bstr l), .string { data := #[98, 101] }] w fun e w' => e = .returned (.bool (l.drop (l.length - 2) == [98, 101])) ∧ w' = w := by
  have hx := str_drop2 l (l.length - 2)
  have h1 : (2 : Int) ≤ (l.length : Int) := by omega
  have d1 : decide ((2 : Int) ≤ (l.length : Int)) = true := decide_eq_true h1
  have d1n : decide (2 ≤ l.length) = true := decide_eq_true h2
  have hsub : (l.length : Int) - 2 = ((l.length - 2 : Nat) : Int) := by omega
  obtain ⟨j, hj⟩ : ∃ j, j = l.length - 2 := ⟨_, rfl⟩
  rw [← hj] at hx hsub ⊢
  have hjl : (j : Int) ≤ (l.length : Int) := by omega
  obtain ⟨m, hm⟩ : ∃ m, m = l.drop j := ⟨_, rfl⟩
  rw [← hm] at hx ⊢
  clear hj hm
  go_enter Tryz.func151, Tryz.ntmps151
  go_wp2_with fail
  go_ret
  exact ⟨rfl, rfl⟩
theorem suf_be (l : List UInt8) (w : World) (h2 : 2 ≤ l.length) (h9 : l.length ≤ 100) : Calls Tryz.prog 137 #[.string (bstr l), .string { data := #[98, 101] }] w fun e w' => e = .returned (.bool (l.drop (l.length - 2) == [98, 101])) ∧ w' = w := by
  have H := Lib.hid (suf_in l w h2 h9)
  generalize (l.drop (l.length - 2) == [98, 101]) = b at *
  clear h2 h9
  go_enter Tryz.func137, Tryz.ntmps137
  go_wp2_with fail
  refine H.out.mono ?_
  rintro e w1 ⟨rfl, rfl⟩
  go_wp2_with fail
  go_ret
  exact ⟨rfl, rfl⟩
set_option maxRecDepth 100000 in
theorem kind_w0 (l : Tm.Wd) (hl : l = [117, 56]) (w : World) : Calls Tryz.prog 112 #[.string (bstr l)] w fun e w' => e = .returned (.tuple #[.int .i64 1, .int .i64 0, .bool false, .bool true]) ∧ ∃ k, w' = w.drewN k := by
  have e0 : (l == [117, 56]) = true := by rw [hl]; decide
  have e1 : (l == [105, 56]) = false := by rw [hl]; decide
  have e2 : (l == [117, 49, 54, 108, 101]) = false := by rw [hl]; decide
  have e3 : (l == [117, 49, 54, 98, 101]) = false := by rw [hl]; decide
  have e4 : (l == [105, 49, 54, 108, 101]) = false := by rw [hl]; decide
  have e5 : (l == [105, 49, 54, 98, 101]) = false := by rw [hl]; decide
  have e6 : (l == [117, 51, 50, 108, 101]) = false := by rw [hl]; decide
  have e7 : (l == [117, 51, 50, 98, 101]) = false := by rw [hl]; decide
  have e8 : (l == [105, 51, 50, 108, 101]) = false := by rw [hl]; decide
  have e9 : (l == [105, 51, 50, 98, 101]) = false := by rw [hl]; decide
  have e10 : (l == [105, 54, 52, 108, 101]) = false := by rw [hl]; decide
  have e11 : (l == [105, 54, 52, 98, 101]) = false := by rw [hl]; decide
  clear hl
  go_enter Tryz.func112, Tryz.ntmps112
  go_wp2_with fail
  exact bodyPost_ret (v := .tuple #[.int .i64 1, .int .i64 0, .bool false, .bool true]) (by simp [results, Tryz.results112, go_sem]) rfl ⟨rfl, 0, rfl⟩
set_option maxRecDepth 100000 in
theorem kind_w1 (l : Tm.Wd) (hl : l = [105, 56]) (w : World) : Calls Tryz.prog 112 #[.string (bstr l)] w fun e w' => e = .returned (.tuple #[.int .i64 1, .int .i64 0, .bool true, .bool true]) ∧ ∃ k, w' = w.drewN k := by
  have e0 : (l == [117, 56]) = false := by rw [hl]; decide
  have e1 : (l == [105, 56]) = true := by rw [hl]; decide
  have e2 : (l == [117, 49, 54, 108, 101]) = false := by rw [hl]; decide
  have e3 : (l == [117, 49, 54, 98, 101]) = false := by rw [hl]; decide
  have e4 : (l == [105, 49, 54, 108, 101]) = false := by rw [hl]; decide
  have e5 : (l == [105, 49, 54, 98, 101]) = false := by rw [hl]; decide
  have e6 : (l == [117, 51, 50, 108, 101]) = false := by rw [hl]; decide
  have e7 : (l == [117, 51, 50, 98, 101]) = false := by rw [hl]; decide
  have e8 : (l == [105, 51, 50, 108, 101]) = false := by rw [hl]; decide
  have e9 : (l == [105, 51, 50, 98, 101]) = false := by rw [hl]; decide
  have e10 : (l == [105, 54, 52, 108, 101]) = false := by rw [hl]; decide
  have e11 : (l == [105, 54, 52, 98, 101]) = false := by rw [hl]; decide
  clear hl
  go_enter Tryz.func112, Tryz.ntmps112
  go_wp2_with fail
  exact bodyPost_ret (v := .tuple #[.int .i64 1, .int .i64 0, .bool true, .bool true]) (by simp [results, Tryz.results112, go_sem]) rfl ⟨rfl, 0, rfl⟩
set_option maxRecDepth 100000 in
theorem kind_w2 (l : Tm.Wd) (hl : l = [117, 49, 54, 108, 101]) (w : World) : Calls Tryz.prog 112 #[.string (bstr l)] w fun e w' => e = .returned (.tuple #[.int .i64 2, .int .i64 0, .bool false, .bool true]) ∧ ∃ k, w' = w.drewN k := by
  have e0 : (l == [117, 56]) = false := by rw [hl]; decide
  have e1 : (l == [105, 56]) = false := by rw [hl]; decide
  have e2 : (l == [117, 49, 54, 108, 101]) = true := by rw [hl]; decide
  have e3 : (l == [117, 49, 54, 98, 101]) = false := by rw [hl]; decide
  have e4 : (l == [105, 49, 54, 108, 101]) = false := by rw [hl]; decide
  have e5 : (l == [105, 49, 54, 98, 101]) = false := by rw [hl]; decide
  have e6 : (l == [117, 51, 50, 108, 101]) = false := by rw [hl]; decide
  have e7 : (l == [117, 51, 50, 98, 101]) = false := by rw [hl]; decide
  have e8 : (l == [105, 51, 50, 108, 101]) = false := by rw [hl]; decide
  have e9 : (l == [105, 51, 50, 98, 101]) = false := by rw [hl]; decide
  have e10 : (l == [105, 54, 52, 108, 101]) = false := by rw [hl]; decide
  have e11 : (l == [105, 54, 52, 98, 101]) = false := by rw [hl]; decide
  have hs := suf_be l w (by rw [hl]; decide) (by rw [hl]; decide)
  rw [show (l.drop (l.length - 2) == [98, 101]) = false by rw [hl]; decide] at hs
  have HS := Lib.hid hs
  have hpos : 0 < l.length := by rw [hl]; decide
  have hposI : (0 : Int) < (l.length : Int) := by omega
  have hcx : ∀ h : 0 < (bstr l).size, ((bstr l)[0]'h).toNat = 117 := by subst hl; intro h; rfl
  clear hs
  clear hl
  go_enter Tryz.func112, Tryz.ntmps112
  go_wp2_with fail
  refine HS.out.mono ?_
  rintro e w1 ⟨rfl, rfl⟩
  go_wp2_with fail
  go_quiet (fail)
  go_wp2_with fail
  exact bodyPost_ret (v := .tuple #[.int .i64 2, .int .i64 0, .bool false, .bool true]) (by simp [results, Tryz.results112, go_sem]) rfl ⟨rfl, _, rfl⟩
set_option maxRecDepth 100000 in
theorem kind_w3 (l : Tm.Wd) (hl : l = [117, 49, 54, 98, 101]) (w : World) : Calls Tryz.prog 112 #[.string (bstr l)] w fun e w' => e = .returned (.tuple #[.int .i64 2, .int .i64 1, .bool false, .bool true]) ∧ ∃ k, w' = w.drewN k := by
  have e0 : (l == [117, 56]) = false := by rw [hl]; decide
  have e1 : (l == [105, 56]) = false := by rw [hl]; decide
  have e2 : (l == [117, 49, 54, 108, 101]) = false := by rw [hl]; decide
  have e3 : (l == [117, 49, 54, 98, 101]) = true := by rw [hl]; decide
  have e4 : (l == [105, 49, 54, 108, 101]) = false := by rw [hl]; decide
  have e5 : (l == [105, 49, 54, 98, 101]) = false := by rw [hl]; decide
  have e6 : (l == [117, 51, 50, 108, 101]) = false := by rw [hl]; decide
  have e7 : (l == [117, 51, 50, 98, 101]) = false := by rw [hl]; decide
  have e8 : (l == [105, 51, 50, 108, 101]) = false := by rw [hl]; decide
  have e9 : (l == [105, 51, 50, 98, 101]) = false := by rw [hl]; decide
  have e10 : (l == [105, 54, 52, 108, 101]) = false := by rw [hl]; decide
  have e11 : (l == [105, 54, 52, 98, 101]) = false := by rw [hl]; decide
  have hs := suf_be l w (by rw [hl]; decide) (by rw [hl]; decide)
  rw [show (l.drop (l.length - 2) == [98, 101]) = true by rw [hl]; decide] at hs
  have HS := Lib.hid hs
  have hpos : 0 < l.length := by rw [hl]; decide
  have hposI : (0 : Int) < (l.length : Int) := by omega
  have hcx : ∀ h : 0 < (bstr l).size, ((bstr l)[0]'h).toNat = 117 := by subst hl; intro h; rfl
  clear hs
  clear hl
  go_enter Tryz.func112, Tryz.ntmps112
  go_wp2_with fail
  refine HS.out.mono ?_
  rintro e w1 ⟨rfl, rfl⟩
  go_wp2_with fail
  go_quiet (fail)
  go_wp2_with fail
  exact bodyPost_ret (v := .tuple #[.int .i64 2, .int .i64 1, .bool false, .bool true]) (by simp [results, Tryz.results112, go_sem]) rfl ⟨rfl, _, rfl⟩
set_option maxRecDepth 100000 in
theorem kind_w4 (l : Tm.Wd) (hl : l = [105, 49, 54, 108, 101]) (w : World) : Calls Tryz.prog 112 #[.string (bstr l)] w fun e w' => e = .returned (.tuple #[.int .i64 2, .int .i64 0, .bool true, .bool true]) ∧ ∃ k, w' = w.drewN k := by
  have e0 : (l == [117, 56]) = false := by rw [hl]; decide
  have e1 : (l == [105, 56]) = false := by rw [hl]; decide
  have e2 : (l == [117, 49, 54, 108, 101]) = false := by rw [hl]; decide
  have e3 : (l == [117, 49, 54, 98, 101]) = false := by rw [hl]; decide
  have e4 : (l == [105, 49, 54, 108, 101]) = true := by rw [hl]; decide
  have e5 : (l == [105, 49, 54, 98, 101]) = false := by rw [hl]; decide
  have e6 : (l == [117, 51, 50, 108, 101]) = false := by rw [hl]; decide
  have e7 : (l == [117, 51, 50, 98, 101]) = false := by rw [hl]; decide
  have e8 : (l == [105, 51, 50, 108, 101]) = false := by rw [hl]; decide
  have e9 : (l == [105, 51, 50, 98, 101]) = false := by rw [hl]; decide
  have e10 : (l == [105, 54, 52, 108, 101]) = false := by rw [hl]; decide
  have e11 : (l == [105, 54, 52, 98, 101]) = false := by rw [hl]; decide
  have hs := suf_be l w (by rw [hl]; decide) (by rw [hl]; decide)
  rw [show (l.drop (l.length - 2) == [98, 101]) = false by rw [hl]; decide] at hs
  have HS := Lib.hid hs
  have hpos : 0 < l.length := by rw [hl]; decide
  have hposI : (0 : Int) < (l.length : Int) := by omega
  have hcx : ∀ h : 0 < (bstr l).size, ((bstr l)[0]'h).toNat = 105 := by subst hl; intro h; rfl
  clear hs
  clear hl
  go_enter Tryz.func112, Tryz.ntmps112
  go_wp2_with fail
  refine HS.out.mono ?_
  rintro e w1 ⟨rfl, rfl⟩
  go_wp2_with fail
  go_quiet (fail)
  go_wp2_with fail
  exact bodyPost_ret (v := .tuple #[.int .i64 2, .int .i64 0, .bool true, .bool true]) (by simp [results, Tryz.results112, go_sem]) rfl ⟨rfl, _, rfl⟩
set_option maxRecDepth 100000 in
theorem kind_w5 (l : Tm.Wd) (hl : l = [105, 49, 54, 98, 101]) (w : World) : Calls Tryz.prog 112 #[.string (bstr l)] w fun e w' => e = .returned (.tuple #[.int .i64 2, .int .i64 1, .bool true, .bool true]) ∧ ∃ k, w' = w.drewN k := by
  have e0 : (l == [117, 56]) = false := by rw [hl]; decide
  have e1 : (l == [105, 56]) = false := by rw [hl]; decide
  have e2 : (l == [117, 49, 54, 108, 101]) = false := by rw [hl]; decide
  have e3 : (l == [117, 49, 54, 98, 101]) = false := by rw [hl]; decide
  have e4 : (l == [105, 49, 54, 108, 101]) = false := by rw [hl]; decide
  have e5 : (l == [105, 49, 54, 98, 101]) = true := by rw [hl]; decide
  have e6 : (l == [117, 51, 50, 108, 101]) = false := by rw [hl]; decide
  have e7 : (l == [117, 51, 50, 98, 101]) = false := by rw [hl]; decide
  have e8 : (l == [105, 51, 50, 108, 101]) = false := by rw [hl]; decide
  have e9 : (l == [105, 51, 50, 98, 101]) = false := by rw [hl]; decide
  have e10 : (l == [105, 54, 52, 108, 101]) = false := by rw [hl]; decide
  have e11 : (l == [105, 54, 52, 98, 101]) = false := by rw [hl]; decide
  have hs := suf_be l w (by rw [hl]; decide) (by rw [hl]; decide)
  rw [show (l.drop (l.length - 2) == [98, 101]) = true by rw [hl]; decide] at hs
  have HS := Lib.hid hs
  have hpos : 0 < l.length := by rw [hl]; decide
  have hposI : (0 : Int) < (l.length : Int) := by omega
  have hcx : ∀ h : 0 < (bstr l).size, ((bstr l)[0]'h).toNat = 105 := by subst hl; intro h; rfl
  clear hs
  clear hl
  go_enter Tryz.func112, Tryz.ntmps112
  go_wp2_with fail
  refine HS.out.mono ?_
  rintro e w1 ⟨rfl, rfl⟩
  go_wp2_with fail
  go_quiet (fail)
  go_wp2_with fail
  exact bodyPost_ret (v := .tuple #[.int .i64 2, .int .i64 1, .bool true, .bool true]) (by simp [results, Tryz.results112, go_sem]) rfl ⟨rfl, _, rfl⟩
set_option maxRecDepth 100000 in
theorem kind_w6 (l : Tm.Wd) (hl : l = [117, 51, 50, 108, 101]) (w : World) : Calls Tryz.prog 112 #[.string (bstr l)] w fun e w' => e = .returned (.tuple #[.int .i64 4, .int .i64 0, .bool false, .bool true]) ∧ ∃ k, w' = w.drewN k := by
  have e0 : (l == [117, 56]) = false := by rw [hl]; decide
  have e1 : (l == [105, 56]) = false := by rw [hl]; decide
  have e2 : (l == [117, 49, 54, 108, 101]) = false := by rw [hl]; decide
  have e3 : (l == [117, 49, 54, 98, 101]) = false := by rw [hl]; decide
  have e4 : (l == [105, 49, 54, 108, 101]) = false := by rw [hl]; decide
  have e5 : (l == [105, 49, 54, 98, 101]) = false := by rw [hl]; decide
  have e6 : (l == [117, 51, 50, 108, 101]) = true := by rw [hl]; decide
  have e7 : (l == [117, 51, 50, 98, 101]) = false := by rw [hl]; decide
  have e8 : (l == [105, 51, 50, 108, 101]) = false := by rw [hl]; decide
  have e9 : (l == [105, 51, 50, 98, 101]) = false := by rw [hl]; decide
  have e10 : (l == [105, 54, 52, 108, 101]) = false := by rw [hl]; decide
  have e11 : (l == [105, 54, 52, 98, 101]) = false := by rw [hl]; decide
  have hs := suf_be l w (by rw [hl]; decide) (by rw [hl]; decide)
  rw [show (l.drop (l.length - 2) == [98, 101]) = false by rw [hl]; decide] at hs
  have HS := Lib.hid hs
  have hpos : 0 < l.length := by rw [hl]; decide
  have hposI : (0 : Int) < (l.length : Int) := by omega
  have hcx : ∀ h : 0 < (bstr l).size, ((bstr l)[0]'h).toNat = 117 := by subst hl; intro h; rfl
  clear hs
  clear hl
  go_enter Tryz.func112, Tryz.ntmps112
  go_wp2_with fail
  refine HS.out.mono ?_
  rintro e w1 ⟨rfl, rfl⟩
  go_wp2_with fail
  go_quiet (fail)
  go_wp2_with fail
  exact bodyPost_ret (v := .tuple #[.int .i64 4, .int .i64 0, .bool false, .bool true]) (by simp [results, Tryz.results112, go_sem]) rfl ⟨rfl, _, rfl⟩
set_option maxRecDepth 100000 in
theorem kind_w7 (l : Tm.Wd) (hl : l = [117, 51, 50, 98, 101]) (w : World) : Calls Tryz.prog 112 #[.string (bstr l)] w fun e w' => e = .returned (.tuple #[.int .i64 4, .int .i64 1, .bool false, .bool true]) ∧ ∃ k, w' = w.drewN k := by
  have e0 : (l == [117, 56]) = false := by rw [hl]; decide
  have e1 : (l == [105, 56]) = false := by rw [hl]; decide
  have e2 : (l == [117, 49, 54, 108, 101]) = false := by rw [hl]; decide
  have e3 : (l == [117, 49, 54, 98, 101]) = false := by rw [hl]; decide
  have e4 : (l == [105, 49, 54, 108, 101]) = false := by rw [hl]; decide
  have e5 : (l == [105, 49, 54, 98, 101]) = false := by rw [hl]; decide
  have e6 : (l == [117, 51, 50, 108, 101]) = false := by rw [hl]; decide
  have e7 : (l == [117, 51, 50, 98, 101]) = true := by rw [hl]; decide
  have e8 : (l == [105, 51, 50, 108, 101]) = false := by rw [hl]; decide
  have e9 : (l == [105, 51, 50, 98, 101]) = false := by rw [hl]; decide
  have e10 : (l == [105, 54, 52, 108, 101]) = false := by rw [hl]; decide
  have e11 : (l == [105, 54, 52, 98, 101]) = false := by rw [hl]; decide
  have hs := suf_be l w (by rw [hl]; decide) (by rw [hl]; decide)
  rw [show (l.drop (l.length - 2) == [98, 101]) = true by rw [hl]; decide] at hs
  have HS := Lib.hid hs
  have hpos : 0 < l.length := by rw [hl]; decide
  have hposI : (0 : Int) < (l.length : Int) := by omega
  have hcx : ∀ h : 0 < (bstr l).size, ((bstr l)[0]'h).toNat = 117 := by subst hl; intro h; rfl
  clear hs
  clear hl
  go_enter Tryz.func112, Tryz.ntmps112
  go_wp2_with fail
  refine HS.out.mono ?_
  rintro e w1 ⟨rfl, rfl⟩
  go_wp2_with fail
  go_quiet (fail)
  go_wp2_with fail
  exact bodyPost_ret (v := .tuple #[.int .i64 4, .int .i64 1, .bool false, .bool true]) (by simp [results, Tryz.results112, go_sem]) rfl ⟨rfl, _, rfl⟩
set_option maxRecDepth 100000 in
theorem kind_w8 (l : Tm.Wd) (hl : l = [105, 51, 50, 108, 101]) (w : World) : Calls Tryz.prog 112 #[.string (bstr l)] w fun e w' => e = .returned (.tuple #[.int .i64 4, .int .i64 0, .bool true, .bool true]) ∧ ∃ k, w' = w.drewN k := by
  have e0 : (l == [117, 56]) = false := by rw [hl]; decide
  have e1 : (l == [105, 56]) = false := by rw [hl]; decide
  have e2 : (l == [117, 49, 54, 108, 101]) = false := by rw [hl]; decide
  have e3 : (l == [117, 49, 54, 98, 101]) = false := by rw [hl]; decide
  have e4 : (l == [105, 49, 54, 108, 101]) = false := by rw [hl]; decide
  have e5 : (l == [105, 49, 54, 98, 101]) = false := by rw [hl]; decide
  have e6 : (l == [117, 51, 50, 108, 101]) = false := by rw [hl]; decide
  have e7 : (l == [117, 51, 50, 98, 101]) = false := by rw [hl]; decide
  have e8 : (l == [105, 51, 50, 108, 101]) = true := by rw [hl]; decide
  have e9 : (l == [105, 51, 50, 98, 101]) = false := by rw [hl]; decide
  have e10 : (l == [105, 54, 52, 108, 101]) = false := by rw [hl]; decide
  have e11 : (l == [105, 54, 52, 98, 101]) = false := by rw [hl]; decide
  have hs := suf_be l w (by rw [hl]; decide) (by rw [hl]; decide)
  rw [show (l.drop (l.length - 2) == [98, 101]) = false by rw [hl]; decide] at hs
  have HS := Lib.hid hs
  have hpos : 0 < l.length := by rw [hl]; decide
  have hposI : (0 : Int) < (l.length : Int) := by omega
  have hcx : ∀ h : 0 < (bstr l).size, ((bstr l)[0]'h).toNat = 105 := by subst hl; intro h; rfl
  clear hs
  clear hl
  go_enter Tryz.func112, Tryz.ntmps112
  go_wp2_with fail
  refine HS.out.mono ?_
  rintro e w1 ⟨rfl, rfl⟩
  go_wp2_with fail
  go_quiet (fail)
  go_wp2_with fail
  exact bodyPost_ret (v := .tuple #[.int .i64 4, .int .i64 0, .bool true, .bool true]) (by simp [results, Tryz.results112, go_sem]) rfl ⟨rfl, _, rfl⟩
set_option maxRecDepth 100000 in
theorem kind_w9 (l : Tm.Wd) (hl : l = [105, 51, 50, 98, 101]) (w : World) : Calls Tryz.prog 112 #[.string (bstr l)] w fun e w' => e = .returned (.tuple #[.int .i64 4, .int .i64 1, .bool true, .bool true]) ∧ ∃ k, w' = w.drewN k := by
  have e0 : (l == [117, 56]) = false := by rw [hl]; decide
  have e1 : (l == [105, 56]) = false := by rw [hl]; decide
  have e2 : (l == [117, 49, 54, 108, 101]) = false := by rw [hl]; decide
  have e3 : (l == [117, 49, 54, 98, 101]) = false := by rw [hl]; decide
  have e4 : (l == [105, 49, 54, 108, 101]) = false := by rw [hl]; decide
  have e5 : (l == [105, 49, 54, 98, 101]) = false := by rw [hl]; decide
  have e6 : (l == [117, 51, 50, 108, 101]) = false := by rw [hl]; decide
  have e7 : (l == [117, 51, 50, 98, 101]) = false := by rw [hl]; decide
  have e8 : (l == [105, 51, 50, 108, 101]) = false := by rw [hl]; decide
  have e9 : (l == [105, 51, 50, 98, 101]) = true := by rw [hl]; decide
  have e10 : (l == [105, 54, 52, 108, 101]) = false := by rw [hl]; decide
  have e11 : (l == [105, 54, 52, 98, 101]) = false := by rw [hl]; decide
  have hs := suf_be l w (by rw [hl]; decide) (by rw [hl]; decide)
  rw [show (l.drop (l.length - 2) == [98, 101]) = true by rw [hl]; decide] at hs
  have HS := Lib.hid hs
  have hpos : 0 < l.length := by rw [hl]; decide
  have hposI : (0 : Int) < (l.length : Int) := by omega
  have hcx : ∀ h : 0 < (bstr l).size, ((bstr l)[0]'h).toNat = 105 := by subst hl; intro h; rfl
  clear hs
  clear hl
  go_enter Tryz.func112, Tryz.ntmps112
  go_wp2_with fail
  refine HS.out.mono ?_
  rintro e w1 ⟨rfl, rfl⟩
  go_wp2_with fail
  go_quiet (fail)
  go_wp2_with fail
  exact bodyPost_ret (v := .tuple #[.int .i64 4, .int .i64 1, .bool true, .bool true]) (by simp [results, Tryz.results112, go_sem]) rfl ⟨rfl, _, rfl⟩
set_option maxRecDepth 100000 in
theorem kind_w10 (l : Tm.Wd) (hl : l = [105, 54, 52, 108, 101]) (w : World) : Calls Tryz.prog 112 #[.string (bstr l)] w fun e w' => e = .returned (.tuple #[.int .i64 8, .int .i64 0, .bool true, .bool true]) ∧ ∃ k, w' = w.drewN k := by
  have e0 : (l == [117, 56]) = false := by rw [hl]; decide
  have e1 : (l == [105, 56]) = false := by rw [hl]; decide
  have e2 : (l == [117, 49, 54, 108, 101]) = false := by rw [hl]; decide
  have e3 : (l == [117, 49, 54, 98, 101]) = false := by rw [hl]; decide
  have e4 : (l == [105, 49, 54, 108, 101]) = false := by rw [hl]; decide
  have e5 : (l == [105, 49, 54, 98, 101]) = false := by rw [hl]; decide
  have e6 : (l == [117, 51, 50, 108, 101]) = false := by rw [hl]; decide
  have e7 : (l == [117, 51, 50, 98, 101]) = false := by rw [hl]; decide
  have e8 : (l == [105, 51, 50, 108, 101]) = false := by rw [hl]; decide
  have e9 : (l == [105, 51, 50, 98, 101]) = false := by rw [hl]; decide
  have e10 : (l == [105, 54, 52, 108, 101]) = true := by rw [hl]; decide
  have e11 : (l == [105, 54, 52, 98, 101]) = false := by rw [hl]; decide
  have hs := suf_be l w (by rw [hl]; decide) (by rw [hl]; decide)
  rw [show (l.drop (l.length - 2) == [98, 101]) = false by rw [hl]; decide] at hs
  have HS := Lib.hid hs
  have hpos : 0 < l.length := by rw [hl]; decide
  have hposI : (0 : Int) < (l.length : Int) := by omega
  have hcx : ∀ h : 0 < (bstr l).size, ((bstr l)[0]'h).toNat = 105 := by subst hl; intro h; rfl
  clear hs
  clear hl
  go_enter Tryz.func112, Tryz.ntmps112
  go_wp2_with fail
  refine HS.out.mono ?_
  rintro e w1 ⟨rfl, rfl⟩
  go_wp2_with fail
  go_quiet (fail)
  go_wp2_with fail
  exact bodyPost_ret (v := .tuple #[.int .i64 8, .int .i64 0, .bool true, .bool true]) (by simp [results, Tryz.results112, go_sem]) rfl ⟨rfl, _, rfl⟩
set_option maxRecDepth 100000 in
theorem kind_w11 (l : Tm.Wd) (hl : l = [105, 54, 52, 98, 101]) (w : World) : Calls Tryz.prog 112 #[.string (bstr l)] w fun e w' => e = .returned (.tuple #[.int .i64 8, .int .i64 1, .bool true, .bool true]) ∧ ∃ k, w' = w.drewN k := by
  have e0 : (l == [117, 56]) = false := by rw [hl]; decide
  have e1 : (l == [105, 56]) = false := by rw [hl]; decide
  have e2 : (l == [117, 49, 54, 108, 101]) = false := by rw [hl]; decide
  have e3 : (l == [117, 49, 54, 98, 101]) = false := by rw [hl]; decide
  have e4 : (l == [105, 49, 54, 108, 101]) = false := by rw [hl]; decide
  have e5 : (l == [105, 49, 54, 98, 101]) = false := by rw [hl]; decide
  have e6 : (l == [117, 51, 50, 108, 101]) = false := by rw [hl]; decide
  have e7 : (l == [117, 51, 50, 98, 101]) = false := by rw [hl]; decide
  have e8 : (l == [105, 51, 50, 108, 101]) = false := by rw [hl]; decide
  have e9 : (l == [105, 51, 50, 98, 101]) = false := by rw [hl]; decide
  have e10 : (l == [105, 54, 52, 108, 101]) = false := by rw [hl]; decide
  have e11 : (l == [105, 54, 52, 98, 101]) = true := by rw [hl]; decide
  have hs := suf_be l w (by rw [hl]; decide) (by rw [hl]; decide)
  rw [show (l.drop (l.length - 2) == [98, 101]) = true by rw [hl]; decide] at hs
  have HS := Lib.hid hs
  have hpos : 0 < l.length := by rw [hl]; decide
  have hposI : (0 : Int) < (l.length : Int) := by omega
  have hcx : ∀ h : 0 < (bstr l).size, ((bstr l)[0]'h).toNat = 105 := by subst hl; intro h; rfl
  clear hs
  clear hl
  go_enter Tryz.func112, Tryz.ntmps112
  go_wp2_with fail
  refine HS.out.mono ?_
  rintro e w1 ⟨rfl, rfl⟩
  go_wp2_with fail
  go_quiet (fail)
  go_wp2_with fail
  exact bodyPost_ret (v := .tuple #[.int .i64 8, .int .i64 1, .bool true, .bool true]) (by simp [results, Tryz.results112, go_sem]) rfl ⟨rfl, _, rfl⟩
set_option maxRecDepth 100000 in
theorem kind_no (l : Tm.Wd) (hl : Tm.kindOf l = none) (w : World) : Calls Tryz.prog 112 #[.string (bstr l)] w fun e w' => e = .returned (.tuple #[.int .i64 0, .int .i64 0, .bool false, .bool false]) ∧ ∃ k, w' = w.drewN k := by
  have hk : ∀ p ∈ Tm.numWords, (l == p.1) = false := by
    intro p hp
    unfold Tm.kindOf at hl
    rw [Option.map_eq_none_iff, List.find?_eq_none] at hl
    have := hl p hp
    rw [beq_eq_false_iff_ne]
    intro e
    apply this
    rw [beq_iff_eq]; exact e.symm
  have e0 := hk ([117, 56], 1, 0, false) (by decide)
  have e1 := hk ([105, 56], 1, 0, true) (by decide)
  have e2 := hk ([117, 49, 54, 108, 101], 2, 0, false) (by decide)
  have e3 := hk ([117, 49, 54, 98, 101], 2, 1, false) (by decide)
  have e4 := hk ([105, 49, 54, 108, 101], 2, 0, true) (by decide)
  have e5 := hk ([105, 49, 54, 98, 101], 2, 1, true) (by decide)
  have e6 := hk ([117, 51, 50, 108, 101], 4, 0, false) (by decide)
  have e7 := hk ([117, 51, 50, 98, 101], 4, 1, false) (by decide)
  have e8 := hk ([105, 51, 50, 108, 101], 4, 0, true) (by decide)
  have e9 := hk ([105, 51, 50, 98, 101], 4, 1, true) (by decide)
  have e10 := hk ([105, 54, 52, 108, 101], 8, 0, true) (by decide)
  have e11 := hk ([105, 54, 52, 98, 101], 8, 1, true) (by decide)
  simp only [] at e0 e1 e2 e3 e4 e5 e6 e7 e8 e9 e10 e11
  clear hl hk
  go_enter Tryz.func112, Tryz.ntmps112
  go_wp2_with fail
  exact bodyPost_ret (v := .tuple #[.int .i64 0, .int .i64 0, .bool false, .bool false]) (by simp [results, Tryz.results112, go_sem]) rfl ⟨rfl, 0, rfl⟩
def kindV (l : Tm.Wd) : Nat × Nat × Bool := (Tm.kindOf l).getD (0, 0, false)
theorem kind_any (l : Tm.Wd) (w : World) : Calls Tryz.prog 112 #[.string (bstr l)] w fun e w' => e = .returned (.tuple #[.int .i64 ((kindV l).1 : Nat), .int .i64 ((kindV l).2.1 : Nat), .bool (kindV l).2.2, .bool (Tm.kindOf l).isSome]) ∧ ∃ k, w' = w.drewN k := by
  cases hk : Tm.kindOf l with
  | none => unfold kindV; rw [hk]; exact kind_no l hk w
  | some v =>
    have hm : ∃ p ∈ Tm.numWords, l = p.1 := by
      unfold Tm.kindOf at hk
      rw [Option.map_eq_some_iff] at hk
      obtain ⟨p, hp, _⟩ := hk
      have h2 := List.find?_some hp
      rw [beq_iff_eq] at h2
      exact ⟨p, List.mem_of_find?_eq_some hp, h2.symm⟩
    obtain ⟨p, hp, rfl⟩ := hm
    unfold kindV
    rw [hk]
    simp only [Tm.numWords, List.mem_cons, List.not_mem_nil, or_false] at hp
    rcases hp with rfl | rfl | rfl | rfl | rfl | rfl | rfl | rfl | rfl | rfl | rfl | rfl
    · obtain rfl : v = (1, 0, false) := by have := hk; simpa [Tm.kindOf, Tm.numWords] using this.symm
      exact kind_w0 _ rfl w
    · obtain rfl : v = (1, 0, true) := by have := hk; simpa [Tm.kindOf, Tm.numWords] using this.symm
      exact kind_w1 _ rfl w
    · obtain rfl : v = (2, 0, false) := by have := hk; simpa [Tm.kindOf, Tm.numWords] using this.symm
      exact kind_w2 _ rfl w
    · obtain rfl : v = (2, 1, false) := by have := hk; simpa [Tm.kindOf, Tm.numWords] using this.symm
      exact kind_w3 _ rfl w
    · obtain rfl : v = (2, 0, true) := by have := hk; simpa [Tm.kindOf, Tm.numWords] using this.symm
      exact kind_w4 _ rfl w
    · obtain rfl : v = (2, 1, true) := by have := hk; simpa [Tm.kindOf, Tm.numWords] using this.symm
      exact kind_w5 _ rfl w
    · obtain rfl : v = (4, 0, false) := by have := hk; simpa [Tm.kindOf, Tm.numWords] using this.symm
      exact kind_w6 _ rfl w
    · obtain rfl : v = (4, 1, false) := by have := hk; simpa [Tm.kindOf, Tm.numWords] using this.symm
      exact kind_w7 _ rfl w
    · obtain rfl : v = (4, 0, true) := by have := hk; simpa [Tm.kindOf, Tm.numWords] using this.symm
      exact kind_w8 _ rfl w
    · obtain rfl : v = (4, 1, true) := by have := hk; simpa [Tm.kindOf, Tm.numWords] using this.symm
      exact kind_w9 _ rfl w
    · obtain rfl : v = (8, 0, true) := by have := hk; simpa [Tm.kindOf, Tm.numWords] using this.symm
      exact kind_w10 _ rfl w
    · obtain rfl : v = (8, 1, true) := by have := hk; simpa [Tm.kindOf, Tm.numWords] using this.symm
      exact kind_w11 _ rfl w
set_option maxRecDepth 100000 in
theorem kept_any (l : Tm.Wd) (w : World) : Calls Tryz.prog 87 #[.string (bstr l)] w fun e w' => e = .returned (.bool (Tm.keptB l)) ∧ ∃ k, w' = w.drewN k := by
  have HK := Lib.hid (kind_any l w)
  unfold Tm.keptB
  generalize (kindV l).1 = a at *
  generalize (kindV l).2.1 = b at *
  generalize (kindV l).2.2 = c at *
  cases hz : (Tm.kindOf l).isSome with
  | true =>
    rw [hz] at HK
    clear hz
    go_enter Tryz.func87, Tryz.ntmps87
    go_wp2_with fail
    refine HK.out.mono ?_
    rintro e w1 ⟨rfl, k, rfl⟩
    go_wp2_with fail
    go_ret
    exact ⟨rfl, k, rfl⟩
  | false =>
    rw [hz] at HK
    clear hz
    have hc : Tm.keptWords.contains l = ((((((l == [115, 116, 114, 117, 99, 116]) || (l == [98, 121, 116, 101, 115])) || (l == [119, 104, 101, 110])) || (l == [115, 105, 122, 101])) || (l == [99, 111, 117, 110, 116])) || (l == [99, 104, 101, 99, 107])) := by
      rw [Bool.eq_iff_iff]
      simp [Tm.keptWords, Tm.wStruct, Tm.wBytes, Tm.wWhen, Tm.wSize, Tm.wCount, Tm.wCheck, or_assoc]
    rw [hc, Bool.false_or]
    have HC := Lib.hid hc
    clear hc
    go_enter Tryz.func87, Tryz.ntmps87
    go_wp2_with fail
    refine HK.out.mono ?_
    rintro e w1 ⟨rfl, k, rfl⟩
    go_wp2_with fail
    all_goals
      go_ret
      refine ⟨ret_bool ?_, k, rfl⟩
      simp_all
end Go.Proofs.YtlomecfhobehnaaGreatDoor
end
section
/- Contracts of tmpl.name, tmpl.rule. -/
namespace Go.Proofs.YtlomecfhobehnaaGreatDoor
open Go.RowKit
set_option linter.unusedVariables false
set_option linter.unusedSimpArgs false
open Rd
namespace Rd
theorem Rdr.drewN {w : World} {rb : Nat} {R : List Tok} {E : Nat} (h : Rdr w rb R E) (k : Nat) : Rdr (w.drewN k) rb R E := h.below ⟨rfl, rfl, rfl, Nat.le_refl _, fun _ _ => rfl⟩
theorem dn_grown (w : World) (k : Nat) (r : Option Nat) : w.grownBy (w.drewN k) r := ⟨rfl, rfl, rfl, Nat.le_refl _, fun _ _ _ => rfl⟩
/-- it was thrown -/
def Bad (w : World) (rb : Nat) (e : Ending) (w' : World) : Prop := ∃ g en p : Nat, e = thrown g ∧ RowAt w' g 0 122 [.int .i64 (en : Nat), .int .i64 (p : Nat)] ∧ w.heap.size ≤ g ∧ w.grownBy w' (some rb)
end Rd
set_option maxRecDepth 100000 in
theorem name_yes (rb : Nat) (t : Rd.Tok) (R : List Rd.Tok) (E : Nat) (w : World) (h : Rdr w rb (t :: R) E) (hn : Tm.nameB t.1 = true) :
    Calls Tryz.prog 54 #[.pointer (some ⟨rb, 0, none⟩)] w fun e w' => e = .returned (.string (bstr t.1)) ∧ Rdr w' rb R E ∧ w.grownBy w' (some rb) := by
  have hne : t.1 ≠ [] := by intro e; rw [e] at hn; exact absurd hn (by decide)
  have hkp := Tm.name_kept hn
  have hle : isName t.1 = true := by
    unfold Tm.nameB at hn
    simp only [Bool.and_eq_true] at hn
    have := hn.1.1
    cases ht : t.1 with
    | nil => rw [ht] at this; cases this
    | cons c r => rw [ht] at this; exact this
  have hlen : t.1.length ≤ 12 := by
    unfold Tm.nameB at hn
    simp only [Bool.and_eq_true, decide_eq_true_eq] at hn
    exact hn.2
  have HA := Lib.hid (At_any rb (t :: R) E w h)
  have HT := Lib.hid (Text_any rb (t :: R) E w h)
  have HP := Lib.hid (fun k => Pass_any rb t R E (w.drewN k) (h.drewN k) hne)
  have hN := Name_all t.1 w
  rw [hle] at hN
  have HN := Lib.hid hN
  have hK := kept_any t.1 w
  rw [hkp] at hK
  have HK := Lib.hid hK
  have hto : textOf (t :: R) = t.1 := rfl
  rw [hto] at HT
  generalize Ex.atOf E (t :: R) = at_ at *
  generalize t.1 = s at *
  have d12 : decide ((12 : Int) < (s.length : Int)) = false := decide_eq_false (by omega)
  have d12n : decide (12 < s.length) = false := decide_eq_false (by omega)
  clear h hn hne hkp hle hN hK hto
  go_enter Tryz.func54, Tryz.ntmps54
  go_wp2_with fail
  refine HA.out.mono ?_
  rintro e w1 ⟨rfl, rfl⟩
  go_wp2_with fail
  refine HT.out.mono ?_
  rintro e w2 ⟨rfl, rfl⟩
  go_wp2_with fail
  refine HN.out.mono ?_
  rintro e w3 ⟨rfl, rfl⟩
  go_wp2_with fail
  refine HK.out.mono ?_
  rintro e w4 ⟨rfl, k, rfl⟩
  go_wp2_with fail
  refine (HP.out k).mono ?_
  rintro e w5 ⟨rfl, h1, h2⟩
  go_wp2_with fail
  go_ret
  exact ⟨rfl, h1, grownBy_trans (dn_grown _ k _) h2⟩
set_option maxRecDepth 100000 in
theorem name_no (rb : Nat) (T : List Rd.Tok) (E : Nat) (w : World) (h : Rdr w rb T E) (hn : Tm.nameB (Tm.textOf T) = false) (hsz : (Tm.textOf T).length ≤ 100000) :
    Calls Tryz.prog 54 #[.pointer (some ⟨rb, 0, none⟩)] w (Bad w rb) := by
  have hto : textOf T = Tm.textOf T := by cases T <;> rfl
  have HA := Lib.hid (At_any rb T E w h)
  have HT := Lib.hid (Text_any rb T E w h)
  rw [hto] at HT
  have HN := Lib.hid (Name_all (Tm.textOf T) w)
  have HK := Lib.hid (kept_any (Tm.textOf T) w)
  have hnb : isName (Tm.textOf T) = false ∨ (isName (Tm.textOf T) = true ∧ Tm.keptB (Tm.textOf T) = true) ∨ (isName (Tm.textOf T) = true ∧ Tm.keptB (Tm.textOf T) = false ∧ 12 < (Tm.textOf T).length) := by
    have e : Tm.lettered (Tm.textOf T) = isName (Tm.textOf T) := by cases Tm.textOf T <;> rfl
    unfold Tm.nameB at hn
    rw [e] at hn
    cases h1 : isName (Tm.textOf T) with
    | false => exact .inl rfl
    | true =>
      cases h2 : Tm.keptB (Tm.textOf T) with
      | true => exact .inr (.inl ⟨rfl, rfl⟩)
      | false =>
        rw [h1, h2] at hn
        simp only [Bool.true_and, Bool.not_false, decide_eq_false_iff_not, Nat.not_le] at hn
        exact .inr (.inr ⟨rfl, rfl, hn⟩)
  generalize Tm.textOf T = s at *
  generalize Ex.atOf E T = at_ at *
  have hF := fun en k => Fail_any rb en at_ (w.drewN k)
  unfold thrown at hF
  have HF := Lib.hid hF
  unfold Bad thrown
  clear h hn hto hF
  rcases hnb with h1 | ⟨h1, h2⟩ | ⟨h1, h2, h3⟩
  · rw [h1] at HN
    clear h1
    go_enter Tryz.func54, Tryz.ntmps54
    go_wp2_with fail
    refine HA.out.mono ?_
    rintro e w1 ⟨rfl, rfl⟩
    go_wp2_with fail
    refine HT.out.mono ?_
    rintro e w2 ⟨rfl, rfl⟩
    go_wp2_with fail
    refine HN.out.mono ?_
    rintro e w3 ⟨rfl, rfl⟩
    go_wp2_with fail
    refine (HF.out 3 0).mono ?_
    rintro e w5 ⟨rfl, h1, h2⟩
    go_wp2_with fail
    exact ⟨rfl, _, 3, at_, rfl, h1, Nat.le_refl _, below_grown h2 _⟩
  · rw [h1] at HN
    rw [h2] at HK
    clear h1 h2
    go_enter Tryz.func54, Tryz.ntmps54
    go_wp2_with fail
    refine HA.out.mono ?_
    rintro e w1 ⟨rfl, rfl⟩
    go_wp2_with fail
    refine HT.out.mono ?_
    rintro e w2 ⟨rfl, rfl⟩
    go_wp2_with fail
    refine HN.out.mono ?_
    rintro e w3 ⟨rfl, rfl⟩
    go_wp2_with fail
    refine HK.out.mono ?_
    rintro e w4 ⟨rfl, k, rfl⟩
    go_wp2_with fail
    refine (HF.out 3 k).mono ?_
    rintro e w5 ⟨rfl, h1, h2⟩
    go_wp2_with fail
    exact ⟨rfl, _, 3, at_, rfl, h1, Nat.le_refl _, grownBy_trans (dn_grown _ k _) (below_grown h2 _)⟩
  · rw [h1] at HN
    rw [h2] at HK
    have d12 : decide ((12 : Int) < (s.length : Int)) = true := decide_eq_true (by omega)
    have d12n : decide (12 < s.length) = true := decide_eq_true h3
    clear h1 h2
    go_enter Tryz.func54, Tryz.ntmps54
    go_wp2_with fail
    refine HA.out.mono ?_
    rintro e w1 ⟨rfl, rfl⟩
    go_wp2_with fail
    refine HT.out.mono ?_
    rintro e w2 ⟨rfl, rfl⟩
    go_wp2_with fail
    refine HN.out.mono ?_
    rintro e w3 ⟨rfl, rfl⟩
    go_wp2_with fail
    refine HK.out.mono ?_
    rintro e w4 ⟨rfl, k, rfl⟩
    go_wp2_with fail
    refine (HF.out 4 k).mono ?_
    rintro e w5 ⟨rfl, h1, h2⟩
    go_wp2_with fail
    exact ⟨rfl, _, 4, at_, rfl, h1, Nat.le_refl _, grownBy_trans (dn_grown _ k _) (below_grown h2 _)⟩
end Go.Proofs.YtlomecfhobehnaaGreatDoor
end
