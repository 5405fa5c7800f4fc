/- Contracts of tmpl.kind, tmpl.kept. -/
import Derived.Test.YtlpkebngehmimaaGreatDoorMgTypesMore16
import Derived.Test.YtlpkebngehmimaaGreatDoorMgTypesMore20
section
/- Contracts of tmpl.kind, tmpl.kept. -/
namespace Go.Proofs.YtlpkebngehmimaaGreatDoor
open Go.RowKit
set_option linter.unusedVariables false
set_option linter.unusedSimpArgs false
open Rd
theorem str_drop2 (l : List UInt8) (j : Nat) : (bstr l).extract j l.length = bstr (l.drop j) := by
  apply ByteArray.ext
  apply Array.ext'
  rw [ByteArray.data_extract, Array.toList_extract]
  show List.extract l j l.length = l.drop j
  rw [List.extract_eq_take_drop]
  exact List.take_of_length_le (by rw [List.length_drop]; exact Nat.le_refl _)
set_option maxRecDepth 100000 in
theorem suf_in (l : List UInt8) (w : World) (h2 : 2 ≤ l.length) (h9 : l.length ≤ 100) : Calls Tryz.prog 117 #[.string (bstr l), .string { data := #[98, 101] }] w fun e w' => e = .returned (.bool (l.drop (l.length - 2) == [98, 101])) ∧ w' = w := by
  have hx := str_drop2 l (l.length - 2)
  have h1 : (2 : Int) ≤ (l.length : Int) := by omega
  have d1 : decide ((2 : Int) ≤ (l.length : Int)) = true := decide_eq_true h1
  have d1n : decide (2 ≤ l.length) = true := decide_eq_true h2
  have hsub : (l.length : Int) - 2 = ((l.length - 2 : Nat) : Int) := by omega
  obtain ⟨j, hj⟩ : ∃ j, j = l.length - 2 := ⟨_, rfl⟩
  rw [← hj] at hx hsub ⊢
  have hjl : (j : Int) ≤ (l.length : Int) := by omega
  obtain ⟨m, hm⟩ : ∃ m, m = l.drop j := ⟨_, rfl⟩
  rw [← hm] at hx ⊢
  clear hj hm
  go_enter Tryz.func117, Tryz.ntmps117
  go_wp2_with fail
  go_ret
  exact ⟨rfl, rfl⟩
theorem suf_be (l : List UInt8) (w : World) (h2 : 2 ≤ l.length) (h9 : l.length ≤ 100) : Calls Tryz.prog 103 #[.string (bstr l), .string { data := #[98, 101] }] w fun e w' => e = .returned (.bool (l.drop (l.length - 2) == [98, 101])) ∧ w' = w := by
  have H := Lib.hid (suf_in l w h2 h9)
  generalize (l.drop (l.length - 2) == [98, 101]) = b at *
  clear h2 h9
  go_enter Tryz.func103, Tryz.ntmps103
  go_wp2_with fail
  refine H.out.mono ?_
  rintro e w1 ⟨rfl, rfl⟩
  go_wp2_with fail
  go_ret
  exact ⟨rfl, rfl⟩
set_option maxRecDepth 100000 in
theorem kind_w0 (l : Tm.Wd) (hl : l = [117, 56]) (w : World) : Calls Tryz.prog 74 #[.string (bstr l)] w fun e w' => e = .returned (.tuple #[.int .i64 1, .int .i64 0, .bool false, .bool true]) ∧ ∃ k, w' = w.drewN k := by
  have e0 : (l == [117, 56]) = true := by rw [hl]; decide
  have e1 : (l == [105, 56]) = false := by rw [hl]; decide
  have e2 : (l == [117, 49, 54, 108, 101]) = false := by rw [hl]; decide
  have e3 : (l == [117, 49, 54, 98, 101]) = false := by rw [hl]; decide
  have e4 : (l == [105, 49, 54, 108, 101]) = false := by rw [hl]; decide
  have e5 : (l == [105, 49, 54, 98, 101]) = false := by rw [hl]; decide
  have e6 : (l == [117, 51, 50, 108, 101]) = false := by rw [hl]; decide
  have e7 : (l == [117, 51, 50, 98, 101]) = false := by rw [hl]; decide
  have e8 : (l == [105, 51, 50, 108, 101]) = false := by rw [hl]; decide
  have e9 : (l == [105, 51, 50, 98, 101]) = false := by rw [hl]; decide
  have e10 : (l == [105, 54, 52, 108, 101]) = false := by rw [hl]; decide
  have e11 : (l == [105, 54, 52, 98, 101]) = false := by rw [hl]; decide
  clear hl
  go_enter Tryz.func74, Tryz.ntmps74
  go_wp2_with fail
  exact bodyPost_ret (v := .tuple #[.int .i64 1, .int .i64 0, .bool false, .bool true]) (by simp [results, Tryz.results74, go_sem]) rfl ⟨rfl, 0, rfl⟩
set_option maxRecDepth 100000 in
theorem kind_w1 (l : Tm.Wd) (hl : l = [105, 56]) (w : World) : Calls Tryz.prog 74 #[.string (bstr l)] w fun e w' => e = .returned (.tuple #[.int .i64 1, .int .i64 0, .bool true, .bool true]) ∧ ∃ k, w' = w.drewN k := by
  have e0 : (l == [117, 56]) = false := by rw [hl]; decide
  have e1 : (l == [105, 56]) = true := by rw [hl]; decide
  have e2 : (l == [117, 49, 54, 108, 101]) = false := by rw [hl]; decide
  have e3 : (l == [117, 49, 54, 98, 101]) = false := by rw [hl]; decide
  have e4 : (l == [105, 49, 54, 108, 101]) = false := by rw [hl]; decide
  have e5 : (l == [105, 49, 54, 98, 101]) = false := by rw [hl]; decide
  have e6 : (l == [117, 51, 50, 108, 101]) = false := by rw [hl]; decide
  have e7 : (l == [117, 51, 50, 98, 101]) = false := by rw [hl]; decide
  have e8 : (l == [105, 51, 50, 108, 101]) = false := by rw [hl]; decide
  have e9 : (l == [105, 51, 50, 98, 101]) = false := by rw [hl]; decide
  have e10 : (l == [105, 54, 52, 108, 101]) = false := by rw [hl]; decide
  have e11 : (l == [105, 54, 52, 98, 101]) = false := by rw [hl]; decide
  clear hl
  go_enter Tryz.func74, Tryz.ntmps74
  go_wp2_with fail
  exact bodyPost_ret (v := .tuple #[.int .i64 1, .int .i64 0, .bool true, .bool true]) (by simp [results, Tryz.results74, go_sem]) rfl ⟨rfl, 0, rfl⟩
set_option maxRecDepth 100000 in
theorem kind_w2 (l : Tm.Wd) (hl : l = [117, 49, 54, 108, 101]) (w : World) : Calls Tryz.prog 74 #[.string (bstr l)] w fun e w' => e = .returned (.tuple #[.int .i64 2, .int .i64 0, .bool false, .bool true]) ∧ ∃ k, w' = w.drewN k := by
  have e0 : (l == [117, 56]) = false := by rw [hl]; decide
  have e1 : (l == [105, 56]) = false := by rw [hl]; decide
  have e2 : (l == [117, 49, 54, 108, 101]) = true := by rw [hl]; decide
  have e3 : (l == [117, 49, 54, 98, 101]) = false := by rw [hl]; decide
  have e4 : (l == [105, 49, 54, 108, 101]) = false := by rw [hl]; decide
  have e5 : (l == [105, 49, 54, 98, 101]) = false := by rw [hl]; decide
  have e6 : (l == [117, 51, 50, 108, 101]) = false := by rw [hl]; decide
  have e7 : (l == [117, 51, 50, 98, 101]) = false := by rw [hl]; decide
  have e8 : (l == [105, 51, 50, 108, 101]) = false := by rw [hl]; decide
  have e9 : (l == [105, 51, 50, 98, 101]) = false := by rw [hl]; decide
  have e10 : (l == [105, 54, 52, 108, 101]) = false := by rw [hl]; decide
  have e11 : (l == [105, 54, 52, 98, 101]) = false := by rw [hl]; decide
  have hs := suf_be l w (by rw [hl]; decide) (by rw [hl]; decide)
  rw [show (l.drop (l.length - 2) == [98, 101]) = false by rw [hl]; decide] at hs
  have HS := Lib.hid hs
  have hpos : 0 < l.length := by rw [hl]; decide
  have hposI : (0 : Int) < (l.length : Int) := by omega
  have hcx : ∀ h : 0 < (bstr l).size, ((bstr l)[0]'h).toNat = 117 := by subst hl; intro h; rfl
  clear hs
  clear hl
  go_enter Tryz.func74, Tryz.ntmps74
  go_wp2_with fail
  refine HS.out.mono ?_
  rintro e w1 ⟨rfl, rfl⟩
  go_wp2_with fail
  go_quiet (fail)
  go_wp2_with fail
  exact bodyPost_ret (v := .tuple #[.int .i64 2, .int .i64 0, .bool false, .bool true]) (by simp [results, Tryz.results74, go_sem]) rfl ⟨rfl, _, rfl⟩
set_option maxRecDepth 100000 in
theorem kind_w3 (l : Tm.Wd) (hl : l = [117, 49, 54, 98, 101]) (w : World) : Calls Tryz.prog 74 #[.string (bstr l)] w fun e w' => e = .returned (.tuple #[.int .i64 2, .int .i64 1, .bool false, .bool true]) ∧ ∃ k, w' = w.drewN k := by
  have e0 : (l == [117, 56]) = false := by rw [hl]; decide
  have e1 : (l == [105, 56]) = false := by rw [hl]; decide
  have e2 : (l == [117, 49, 54, 108, 101]) = false := by rw [hl]; decide
  have e3 : (l == [117, 49, 54, 98, 101]) = true := by rw [hl]; decide
  have e4 : (l == [105, 49, 54, 108, 101]) = false := by rw [hl]; decide
  have e5 : (l == [105, 49, 54, 98, 101]) = false := by rw [hl]; decide
  have e6 : (l == [117, 51, 50, 108, 101]) = false := by rw [hl]; decide
  have e7 : (l == [117, 51, 50, 98, 101]) = false := by rw [hl]; decide
  have e8 : (l == [105, 51, 50, 108, 101]) = false := by rw [hl]; decide
  have e9 : (l == [105, 51, 50, 98, 101]) = false := by rw [hl]; decide
  have e10 : (l == [105, 54, 52, 108, 101]) = false := by rw [hl]; decide
  have e11 : (l == [105, 54, 52, 98, 101]) = false := by rw [hl]; decide
  have hs := suf_be l w (by rw [hl]; decide) (by rw [hl]; decide)
  rw [show (l.drop (l.length - 2) == [98, 101]) = true by rw [hl]; decide] at hs
  have HS := Lib.hid hs
  have hpos : 0 < l.length := by rw [hl]; decide
  have hposI : (0 : Int) < (l.length : Int) := by omega
  have hcx : ∀ h : 0 < (bstr l).size, ((bstr l)[0]'h).toNat = 117 := by subst hl; intro h; rfl
  clear hs
  clear hl
  go_enter Tryz.func74, Tryz.ntmps74
  go_wp2_with fail
  refine HS.out.mono ?_
  rintro e w1 ⟨rfl, rfl⟩
  go_wp2_with fail
  go_quiet (fail)
  go_wp2_with fail
  exact bodyPost_ret (v := .tuple #[.int .i64 2, .int .i64 1, .bool false, .bool true]) (by simp [results, Tryz.results74, go_sem]) rfl ⟨rfl, _, rfl⟩
set_option maxRecDepth 100000 in
theorem kind_w4 (l : Tm.Wd) (hl : l = [105, 49, 54, 108, 101]) (w : World) : Calls Tryz.prog 74 #[.string (bstr l)] w fun e w' => e = .returned (.tuple #[.int .i64 2, .int .i64 0, .bool true, .bool true]) ∧ ∃ k, w' = w.drewN k := by
  have e0 : (l == [117, 56]) = false := by rw [hl]; decide
  have e1 : (l == [105, 56]) = false := by rw [hl]; decide
  have e2 : (l == [117, 49, 54, 108, 101]) = false := by rw [hl]; decide
  have e3 : (l == [117, 49, 54, 98, 101]) = false := by rw [hl]; decide
  have e4 : (l == [105, 49, 54, 108, 101]) = true := by rw [hl]; decide
  have e5 : (l == [105, 49, 54, 98, 101]) = false := by rw [hl]; decide
  have e6 : (l == [117, 51, 50, 108, 101]) = false := by rw [hl]; decide
  have e7 : (l == [117, 51, 50, 98, 101]) = false := by rw [hl]; decide
  have e8 : (l == [105, 51, 50, 108, 101]) = false := by rw [hl]; decide
  have e9 : (l == [105, 51, 50, 98, 101]) = false := by rw [hl]; decide
  have e10 : (l == [105, 54, 52, 108, 101]) = false := by rw [hl]; decide
  have e11 : (l == [105, 54, 52, 98, 101]) = false := by rw [hl]; decide
  have hs := suf_be l w (by rw [hl]; decide) (by rw [hl]; decide)
  rw [show (l.drop (l.length - 2) == [98, 101]) = false by rw [hl]; decide] at hs
  have HS := Lib.hid hs
  have hpos : 0 < l.length := by rw [hl]; decide
  have hposI : (0 : Int) < (l.length : Int) := by omega
  have hcx : ∀ h : 0 < (bstr l).size, ((bstr l)[0]'h).toNat = 105 := by subst hl; intro h; rfl
  clear hs
  clear hl
  go_enter Tryz.func74, Tryz.ntmps74
  go_wp2_with fail
  refine HS.out.mono ?_
  rintro e w1 ⟨rfl, rfl⟩
  go_wp2_with fail
  go_quiet (fail)
  go_wp2_with fail
  exact bodyPost_ret (v := .tuple #[.int .i64 2, .int .i64 0, .bool true, .bool true]) (by simp [results, Tryz.results74, go_sem]) rfl ⟨rfl, _, rfl⟩
set_option maxRecDepth 100000 in
theorem kind_w5 (l : Tm.Wd) (hl : l = [105, 49, 54, 98, 101]) (w : World) : Calls Tryz.prog 74 #[.string (bstr l)] w fun e w' => e = .returned (.tuple #[.int .i64 2, .int .i64 1, .bool true, .bool true]) ∧ ∃ k, w' = w.drewN k := by
  have e0 : (l == [117, 56]) = false := by rw [hl]; decide
  have e1 : (l == [105, 56]) = false := by rw [hl]; decide
  have e2 : (l == [117, 49, 54, 108, 101]) = false := by rw [hl]; decide
  have e3 : (l == [117, 49, 54, 98, 101]) = false := by rw [hl]; decide
  have e4 : (l == [105, 49, 54, 108, 101]) = false := by rw [hl]; decide
  have e5 : (l == [105, 49, 54, 98, 101]) = true := by rw [hl]; decide
  have e6 : (l == [117, 51, 50, 108, 101]) = false := by rw [hl]; decide
  have e7 : (l == [117, 51, 50, 98, 101]) = false := by rw [hl]; decide
  have e8 : (l == [105, 51, 50, 108, 101]) = false := by rw [hl]; decide
  have e9 : (l == [105, 51, 50, 98, 101]) = false := by rw [hl]; decide
  have e10 : (l == [105, 54, 52, 108, 101]) = false := by rw [hl]; decide
  have e11 : (l == [105, 54, 52, 98, 101]) = false := by rw [hl]; decide
  have hs := suf_be l w (by rw [hl]; decide) (by rw [hl]; decide)
  rw [show (l.drop (l.length - 2) == [98, 101]) = true by rw [hl]; decide] at hs
  have HS := Lib.hid hs
  have hpos : 0 < l.length := by rw [hl]; decide
  have hposI : (0 : Int) < (l.length : Int) := by omega
  have hcx : ∀ h : 0 < (bstr l).size, ((bstr l)[0]'h).toNat = 105 := by subst hl; intro h; rfl
  clear hs
  clear hl
  go_enter Tryz.func74, Tryz.ntmps74
  go_wp2_with fail
  refine HS.out.mono ?_
  rintro e w1 ⟨rfl, rfl⟩
  go_wp2_with fail
  go_quiet (fail)
  go_wp2_with fail
  exact bodyPost_ret (v := .tuple #[.int .i64 2, .int .i64 1, .bool true, .bool true]) (by simp [results, Tryz.results74, go_sem]) rfl ⟨rfl, _, rfl⟩
set_option maxRecDepth 100000 in
theorem kind_w6 (l : Tm.Wd) (hl : l = [117, 51, 50, 108, 101]) (w : World) : Calls Tryz.prog 74 #[.string (bstr l)] w fun e w' => e = .returned (.tuple #[.int .i64 4, .int .i64 0, .bool false, .bool true]) ∧ ∃ k, w' = w.drewN k := by
  have e0 : (l == [117, 56]) = false := by rw [hl]; decide
  have e1 : (l == [105, 56]) = false := by rw [hl]; decide
  have e2 : (l == [117, 49, 54, 108, 101]) = false := by rw [hl]; decide
  have e3 : (l == [117, 49, 54, 98, 101]) = false := by rw [hl]; decide
  have e4 : (l == [105, 49, 54, 108, 101]) = false := by rw [hl]; decide
  have e5 : (l == [105, 49, 54, 98, 101]) = false := by rw [hl]; decide
  have e6 : (l == [117, 51, 50, 108, 101]) = true := by rw [hl]; decide
  have e7 : (l == [117, 51, 50, 98, 101]) = false := by rw [hl]; decide
  have e8 : (l == [105, 51, 50, 108, 101]) = false := by rw [hl]; decide
  have e9 : (l == [105, 51, 50, 98, 101]) = false := by rw [hl]; decide
  have e10 : (l == [105, 54, 52, 108, 101]) = false := by rw [hl]; decide
  have e11 : (l == [105, 54, 52, 98, 101]) = false := by rw [hl]; decide
  have hs := suf_be l w (by rw [hl]; decide) (by rw [hl]; decide)
  rw [show (l.drop (l.length - 2) == [98, 101]) = false by rw [hl]; decide] at hs
  have HS := Lib.hid hs
  have hpos : 0 < l.length := by rw [hl]; decide
  have hposI : (0 : Int) < (l.length : Int) := by omega
  have hcx : ∀ h : 0 < (bstr l).size, ((bstr l)[0]'h).toNat = 117 := by subst hl; intro h; rfl
  clear hs
  clear hl
  go_enter Tryz.func74, Tryz.ntmps74
  go_wp2_with fail
  refine HS.out.mono ?_
  rintro e w1 ⟨rfl, rfl⟩
  go_wp2_with fail
  go_quiet (fail)
  go_wp2_with fail
  exact bodyPost_ret (v := .tuple #[.int .i64 4, .int .i64 0, .bool false, .bool true]) (by simp [results, Tryz.results74, go_sem]) rfl ⟨rfl, _, rfl⟩
set_option maxRecDepth 100000 in
theorem kind_w7 (l : Tm.Wd) (hl : l = [117, 51, 50, 98, 101]) (w : World) : Calls Tryz.prog 74 #[.string (bstr l)] w fun e w' => e = .returned (.tuple #[.int .i64 4, .int .i64 1, .bool false, .bool true]) ∧ ∃ k, w' = w.drewN k := by
  have e0 : (l == [117, 56]) = false := by rw [hl]; decide
  have e1 : (l == [105, 56]) = false := by rw [hl]; decide
  have e2 : (l == [117, 49, 54, 108, 101]) = false := by rw [hl]; decide
  have e3 : (l == [117, 49, 54, 98, 101]) = false := by rw [hl]; decide
  have e4 : (l == [105, 49, 54, 108, 101]) = false := by rw [hl]; decide
  have e5 : (l == [105, 49, 54, 98, 101]) = false := by rw [hl]; decide
  have e6 : (l == [117, 51, 50, 108, 101]) = false := by rw [hl]; decide
  have e7 : (l == [117, 51, 50, 98, 101]) = true := by rw [hl]; decide
  have e8 : (l == [105, 51, 50, 108, 101]) = false := by rw [hl]; decide
  have e9 : (l == [105, 51, 50, 98, 101]) = false := by rw [hl]; decide
  have e10 : (l == [105, 54, 52, 108, 101]) = false := by rw [hl]; decide
  have e11 : (l == [105, 54, 52, 98, 101]) = false := by rw [hl]; decide
  have hs := suf_be l w (by rw [hl]; decide) (by rw [hl]; decide)
  rw [show (l.drop (l.length - 2) == [98, 101]) = true by rw [hl]; decide] at hs
  have HS := Lib.hid hs
  have hpos : 0 < l.length := by rw [hl]; decide
  have hposI : (0 : Int) < (l.length : Int) := by omega
  have hcx : ∀ h : 0 < (bstr l).size, ((bstr l)[0]'h).toNat = 117 := by subst hl; intro h; rfl
  clear hs
  clear hl
  go_enter Tryz.func74, Tryz.ntmps74
  go_wp2_with fail
  refine HS.out.mono ?_
  rintro e w1 ⟨rfl, rfl⟩
  go_wp2_with fail
  go_quiet (fail)
  go_wp2_with fail
  exact bodyPost_ret (v := .tuple #[.int .i64 4, .int .i64 1, .bool false, .bool true]) (by simp [results, Tryz.results74, go_sem]) rfl ⟨rfl, _, rfl⟩
set_option maxRecDepth 100000 in
theorem kind_w8 (l : Tm.Wd) (hl : l = [105, 51, 50, 108, 101]) (w : World) : Calls Tryz.prog 74 #[.string (bstr l)] w fun e w' => e = .returned (.tuple #[.int .i64 4, .int .i64 0, .bool true, .bool true]) ∧ ∃ k, w' = w.drewN k := by
  have e0 : (l == [117, 56]) = false := by rw [hl]; decide
  have e1 : (l == [105, 56]) = false := by rw [hl]; decide
  have e2 : (l == [117, 49, 54, 108, 101]) = false := by rw [hl]; decide
  have e3 : (l == [117, 49, 54, 98, 101]) = false := by rw [hl]; decide
  have e4 : (l == [105, 49, 54, 108, 101]) = false := by rw [hl]; decide
  have e5 : (l == [105, 49, 54, 98, 101]) = false := by rw [hl]; decide
  have e6 : (l == [117, 51, 50, 108, 101]) = false := by rw [hl]; decide
  have e7 : (l == [117, 51, 50, 98, 101]) = false := by rw [hl]; decide
  have e8 : (l == [105, 51, 50, 108, 101]) = true := by rw [hl]; decide
  have e9 : (l == [105, 51, 50, 98, 101]) = false := by rw [hl]; decide
  have e10 : (l == [105, 54, 52, 108, 101]) = false := by rw [hl]; decide
  have e11 : (l == [105, 54, 52, 98, 101]) = false := by rw [hl]; decide
  have hs := suf_be l w (by rw [hl]; decide) (by rw [hl]; decide)
  rw [show (l.drop (l.length - 2) == [98, 101]) = false by rw [hl]; decide] at hs
  have HS := Lib.hid hs
  have hpos : 0 < l.length := by rw [hl]; decide
  have hposI : (0 : Int) < (l.length : Int) := by omega
  have hcx : ∀ h : 0 < (bstr l).size, ((bstr l)[0]'h).toNat = 105 := by subst hl; intro h; rfl
  clear hs
  clear hl
  go_enter Tryz.func74, Tryz.ntmps74
  go_wp2_with fail
  refine HS.out.mono ?_
  rintro e w1 ⟨rfl, rfl⟩
  go_wp2_with fail
  go_quiet (fail)
  go_wp2_with fail
  exact bodyPost_ret (v := .tuple #[.int .i64 4, .int .i64 0, .bool true, .bool true]) (by simp [results, Tryz.results74, go_sem]) rfl ⟨rfl, _, rfl⟩
set_option maxRecDepth 100000 in
theorem kind_w9 (l : Tm.Wd) (hl : l = [105, 51, 50, 98, 101]) (w : World) : Calls Tryz.prog 74 #[.string (bstr l)] w fun e w' => e = .returned (.tuple #[.int .i64 4, .int .i64 1, .bool true, .bool true]) ∧ ∃ k, w' = w.drewN k := by
  have e0 : (l == [117, 56]) = false := by rw [hl]; decide
  have e1 : (l == [105, 56]) = false := by rw [hl]; decide
  have e2 : (l == [117, 49, 54, 108, 101]) = false := by rw [hl]; decide
  have e3 : (l == [117, 49, 54, 98, 101]) = false := by rw [hl]; decide
  have e4 : (l == [105, 49, 54, 108, 101]) = false := by rw [hl]; decide
  have e5 : (l == [105, 49, 54, 98, 101]) = false := by rw [hl]; decide
  have e6 : (l == [117, 51, 50, 108, 101]) = false := by rw [hl]; decide
  have e7 : (l == [117, 51, 50, 98, 101]) = false := by rw [hl]; decide
  have e8 : (l == [105, 51, 50, 108, 101]) = false := by rw [hl]; decide
  have e9 : (l == [105, 51, 50, 98, 101]) = true := by rw [hl]; decide
  have e10 : (l == [105, 54, 52, 108, 101]) = false := by rw [hl]; decide
  have e11 : (l == [105, 54, 52, 98, 101]) = false := by rw [hl]; decide
  have hs := suf_be l w (by rw [hl]; decide) (by rw [hl]; decide)
  rw [show (l.drop (l.length - 2) == [98, 101]) = true by rw [hl]; decide] at hs
  have HS := Lib.hid hs
  have hpos : 0 < l.length := by rw [hl]; decide
  have hposI : (0 : Int) < (l.length : Int) := by omega
  have hcx : ∀ h : 0 < (bstr l).size, ((bstr l)[0]'h).toNat = 105 := by subst hl; intro h; rfl
  clear hs
  clear hl
  go_enter Tryz.func74, Tryz.ntmps74
  go_wp2_with fail
  refine HS.out.mono ?_
  rintro e w1 ⟨rfl, rfl⟩
  go_wp2_with fail
  go_quiet (fail)
  go_wp2_with fail
  exact bodyPost_ret (v := .tuple #[.int .i64 4, .int .i64 1, .bool true, .bool true]) (by simp [results, Tryz.results74, go_sem]) rfl ⟨rfl, _, rfl⟩
set_option maxRecDepth 100000 in
theorem kind_w10 (l : Tm.Wd) (hl : l = [105, 54, 52, 108, 101]) (w : World) : Calls Tryz.prog 74 #[.string (bstr l)] w fun e w' => e = .returned (.tuple #[.int .i64 8, .int .i64 0, .bool true, .bool true]) ∧ ∃ k, w' = w.drewN k := by
  have e0 : (l == [117, 56]) = false := by rw [hl]; decide
  have e1 : (l == [105, 56]) = false := by rw [hl]; decide
  have e2 : (l == [117, 49, 54, 108, 101]) = false := by rw [hl]; decide
  have e3 : (l == [117, 49, 54, 98, 101]) = false := by rw [hl]; decide
  have e4 : (l == [105, 49, 54, 108, 101]) = false := by rw [hl]; decide
  have e5 : (l == [105, 49, 54, 98, 101]) = false := by rw [hl]; decide
  have e6 : (l == [117, 51, 50, 108, 101]) = false := by rw [hl]; decide
  have e7 : (l == [117, 51, 50, 98, 101]) = false := by rw [hl]; decide
  have e8 : (l == [105, 51, 50, 108, 101]) = false := by rw [hl]; decide
  have e9 : (l == [105, 51, 50, 98, 101]) = false := by rw [hl]; decide
  have e10 : (l == [105, 54, 52, 108, 101]) = true := by rw [hl]; decide
  have e11 : (l == [105, 54, 52, 98, 101]) = false := by rw [hl]; decide
  have hs := suf_be l w (by rw [hl]; decide) (by rw [hl]; decide)
  rw [show (l.drop (l.length - 2) == [98, 101]) = false by rw [hl]; decide] at hs
  have HS := Lib.hid hs
  have hpos : 0 < l.length := by rw [hl]; decide
  have hposI : (0 : Int) < (l.length : Int) := by omega
  have hcx : ∀ h : 0 < (bstr l).size, ((bstr l)[0]'h).toNat = 105 := by subst hl; intro h; rfl
  clear hs
  clear hl
  go_enter Tryz.func74, Tryz.ntmps74
  go_wp2_with fail
  refine HS.out.mono ?_
  rintro e w1 ⟨rfl, rfl⟩
  go_wp2_with fail
  go_quiet (fail)
  go_wp2_with fail
  exact bodyPost_ret (v := .tuple #[.int .i64 8, .int .i64 0, .bool true, .bool true]) (by simp [results, Tryz.results74, go_sem]) rfl ⟨rfl, _, rfl⟩
set_option maxRecDepth 100000 in
theorem kind_w11 (l : Tm.Wd) (hl : l = [105, 54, 52, 98, 101]) (w : World) : Calls Tryz.prog 74 #[.string (bstr l)] w fun e w' => e = .returned (.tuple #[.int .i64 8, .int .i64 1, .bool true, .bool true]) ∧ ∃ k, w' = w.drewN k := by
  have e0 : (l == [117, 56]) = false := by rw [hl]; decide
  have e1 : (l == [105, 56]) = false := by rw [hl]; decide
  have e2 : (l == [117, 49, 54, 108, 101]) = false := by rw [hl]; decide
  have e3 : (l == [117, 49, 54, 98, 101]) = false := by rw [hl]; decide
  have e4 : (l == [105, 49, 54, 108, 101]) = false := by rw [hl]; decide
  have e5 : (l == [105, 49, 54, 98, 101]) = false := by rw [hl]; decide
  have e6 : (l == [117, 51, 50, 108, 101]) = false := by rw [hl]; decide
  have e7 : (l == [117, 51, 50, 98, 101]) = false := by rw [hl]; decide
  have e8 : (l == [105, 51, 50, 108, 101]) = false := by rw [hl]; decide
  have e9 : (l == [105, 51, 50, 98, 101]) = false := by rw [hl]; decide
  have e10 : (l == [105, 54, 52, 108, 101]) = false := by rw [hl]; decide
  have e11 : (l == [105, 54, 52, 98, 101]) = true := by rw [hl]; decide
  have hs := suf_be l w (by rw [hl]; decide) (by rw [hl]; decide)
  rw [show (l.drop (l.length - 2) == [98, 101]) = true by rw [hl]; decide] at hs
  have HS := Lib.hid hs
  have hpos : 0 < l.length := by rw [hl]; decide
  have hposI : (0 : Int) < (l.length : Int) := by omega
  have hcx : ∀ h : 0 < (bstr l).size, ((bstr l)[0]'h).toNat = 105 := by subst hl; intro h; rfl
  clear hs
  clear hl
  go_enter Tryz.func74, Tryz.ntmps74
  go_wp2_with fail
  refine HS.out.mono ?_
  rintro e w1 ⟨rfl, rfl⟩
  go_wp2_with fail
  go_quiet (fail)
  go_wp2_with fail
  exact bodyPost_ret (v := .tuple #[.int .i64 8, .int .i64 1, .bool true, .bool true]) (by simp [results, Tryz.results74, go_sem]) rfl ⟨rfl, _, rfl⟩
set_option maxRecDepth 100000 in
theorem kind_no (l : Tm.Wd) (hl : Tm.kindOf l = none) (w : World) : Calls Tryz.prog 74 #[.string (bstr l)] w fun e w' => e = .returned (.tuple #[.int .i64 0, .int .i64 0, .bool false, .bool false]) ∧ ∃ k, w' = w.drewN k := by
  have hk : ∀ p ∈ Tm.numWords, (l == p.1) = false := by
    intro p hp
    unfold Tm.kindOf at hl
    rw [Option.map_eq_none_iff, List.find?_eq_none] at hl
    have := hl p hp
    rw [beq_eq_false_iff_ne]
    intro e
    apply this
    rw [beq_iff_eq]; exact e.symm
  have e0 := hk ([117, 56], 1, 0, false) (by decide)
  have e1 := hk ([105, 56], 1, 0, true) (by decide)
  have e2 := hk ([117, 49, 54, 108, 101], 2, 0, false) (by decide)
  have e3 := hk ([117, 49, 54, 98, 101], 2, 1, false) (by decide)
  have e4 := hk ([105, 49, 54, 108, 101], 2, 0, true) (by decide)
  have e5 := hk ([105, 49, 54, 98, 101], 2, 1, true) (by decide)
  have e6 := hk ([117, 51, 50, 108, 101], 4, 0, false) (by decide)
  have e7 := hk ([117, 51, 50, 98, 101], 4, 1, false) (by decide)
  have e8 := hk ([105, 51, 50, 108, 101], 4, 0, true) (by decide)
  have e9 := hk ([105, 51, 50, 98, 101], 4, 1, true) (by decide)
  have e10 := hk ([105, 54, 52, 108, 101], 8, 0, true) (by decide)
  have e11 := hk ([105, 54, 52, 98, 101], 8, 1, true) (by decide)
  simp only [] at e0 e1 e2 e3 e4 e5 e6 e7 e8 e9 e10 e11
  clear hl hk
  go_enter Tryz.func74, Tryz.ntmps74
  go_wp2_with fail
  exact bodyPost_ret (v := .tuple #[.int .i64 0, .int .i64 0, .bool false, .bool false]) (by simp [results, Tryz.results74, go_sem]) rfl ⟨rfl, 0, rfl⟩
def kindV (l : Tm.Wd) : Nat × Nat × Bool := (Tm.kindOf l).getD (0, 0, false)
theorem kind_any (l : Tm.Wd) (w : World) : Calls Tryz.prog 74 #[.string (bstr l)] w fun e w' => e = .returned (.tuple #[.int .i64 ((kindV l).1 : Nat), .int .i64 ((kindV l).2.1 : Nat), .bool (kindV l).2.2, .bool (Tm.kindOf l).isSome]) ∧ ∃ k, w' = w.drewN k := by
  cases hk : Tm.kindOf l with
  | none => unfold kindV; rw [hk]; exact kind_no l hk w
  | some v =>
    have hm : ∃ p ∈ Tm.numWords, l = p.1 := by
      unfold Tm.kindOf at hk
      rw [Option.map_eq_some_iff] at hk
      obtain ⟨p, hp, _⟩ := hk
      have h2 := List.find?_some hp
      rw [beq_iff_eq] at h2
      exact ⟨p, List.mem_of_find?_eq_some hp, h2.symm⟩
    obtain ⟨p, hp, rfl⟩ := hm
    unfold kindV
    rw [hk]
    simp only [Tm.numWords, List.mem_cons, List.not_mem_nil, or_false] at hp
    rcases hp with rfl | rfl | rfl | rfl | rfl | rfl | rfl | rfl | rfl | rfl | rfl | rfl
    · obtain rfl : v = (1, 0, false) := by have := hk; simpa [Tm.kindOf, Tm.numWords] using this.symm
      exact kind_w0 _ rfl w
    · obtain rfl : v = (1, 0, true) := by have := hk; simpa [Tm.kindOf, Tm.numWords] using this.symm
      exact kind_w1 _ rfl w
    · obtain rfl : v = (2, 0, false) := by have := hk; simpa [Tm.kindOf, Tm.numWords] using this.symm
      exact kind_w2 _ rfl w
    · obtain rfl : v = (2, 1, false) := by have := hk; simpa [Tm.kindOf, Tm.numWords] using this.symm
      exact kind_w3 _ rfl w
    · obtain rfl : v = (2, 0, true) := by have := hk; simpa [Tm.kindOf, Tm.numWords] using this.symm
      exact kind_w4 _ rfl w
    · obtain rfl : v = (2, 1, true) := by have := hk; simpa [Tm.kindOf, Tm.numWords] using this.symm
      exact kind_w5 _ rfl w
    · obtain rfl : v = (4, 0, false) := by have := hk; simpa [Tm.kindOf, Tm.numWords] using this.symm
      exact kind_w6 _ rfl w
    · obtain rfl : v = (4, 1, false) := by have := hk; simpa [Tm.kindOf, Tm.numWords] using this.symm
      exact kind_w7 _ rfl w
    · obtain rfl : v = (4, 0, true) := by have := hk; simpa [Tm.kindOf, Tm.numWords] using this.symm
      exact kind_w8 _ rfl w
    · obtain rfl : v = (4, 1, true) := by have := hk; simpa [Tm.kindOf, Tm.numWords] using this.symm
      exact kind_w9 _ rfl w
    · obtain rfl : v = (8, 0, true) := by have := hk; simpa [Tm.kindOf, Tm.numWords] using this.symm
      exact kind_w10 _ rfl w
    · obtain rfl : v = (8, 1, true) := by have := hk; simpa [Tm.kindOf, Tm.numWords] using this.symm
      exact kind_w11 _ rfl w
set_option maxRecDepth 100000 in
theorem kept_any (l : Tm.Wd) (w : World) : Calls Tryz.prog 47 #[.string (bstr l)] w fun e w' => e = .returned (.bool (Tm.keptB l)) ∧ ∃ k, w' = w.drewN k := by
  have HK := Lib.hid (kind_any l w)
  unfold Tm.keptB
  generalize (kindV l).1 = a at *
  generalize (kindV l).2.1 = b at *
  generalize (kindV l).2.2 = c at *
  cases hz : (Tm.kindOf l).isSome with
  | true =>
    rw [hz] at HK
    clear hz
    go_enter Tryz.func47, Tryz.ntmps47
    go_wp2_with fail
    refine HK.out.mono ?_
    rintro e w1 ⟨rfl, k, rfl⟩
    go_wp2_with fail
    go_ret
    exact ⟨rfl, k, rfl⟩
  | false =>
    rw [hz] at HK
    clear hz
    have hc : Tm.keptWords.contains l = ((((((l == [115, 116, 114, 117, 99, 116]) || (l == [98, 121, 116, 101, 115])) || (l == [119, 104, 101, 110])) || (l == [115, 105, 122, 101])) || (l == [99, 111, 117, 110, 116])) || (l == [99, 104, 101, 99, 107])) := by
      rw [Bool.eq_iff_iff]
      simp [Tm.keptWords, Tm.wStruct, Tm.wBytes, Tm.wWhen, Tm.wSize, Tm.wCount, Tm.wCheck, or_assoc]
    rw [hc, Bool.false_or]
    have HC := Lib.hid hc
    clear hc
    go_enter Tryz.func47, Tryz.ntmps47
    go_wp2_with fail
    refine HK.out.mono ?_
    rintro e w1 ⟨rfl, k, rfl⟩
    go_wp2_with fail
    all_goals
      go_ret
      refine ⟨ret_bool ?_, k, rfl⟩
      simp_all
end Go.Proofs.YtlpkebngehmimaaGreatDoor
end
