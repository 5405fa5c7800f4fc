/- Contracts of package motion: last, bound, Go (of the keys that look for nothing). -/
import Derived.Test.YtenhblpegobbjaaChecked
import Derived.Test.YtenhblpegobbjaaMem
import Derived.Test.YtenhblpegobbjaaPlainMotion
namespace Go.Proofs.Ytenhblpegobbjaa
open Go.RowKit
set_option linter.unusedVariables false
set_option linter.unusedSimpArgs false
/-- a place: a text, a place in it, a mask, marks, parts -/
abbrev plVal (s : ByteArray) (at_ : Int) (a1 : Option Addr) (n1 c1 : Nat) (mm : Option Nat) (a2 : Option Addr) (n2 c2 : Nat) : Value := .agg #[.string s, .int .i64 at_, .slice a1 n1 c1, .map mm, .slice a2 n2 c2]
set_option maxRecDepth 100000 in
theorem last_any (s : ByteArray) (at_ : Int) (a1 : Option Addr) (n1 c1 : Nat) (mm : Option Nat) (a2 : Option Addr) (n2 c2 : Nat) (w : World) (hs : s.size ≤ 4611686018427387904) :
    Calls Try.prog 62 #[plVal s at_ a1 n1 c1 mm a2 n2 c2] w fun e w' => e = .returned (.int .i64 ((s.size - 1 : Nat) : Int)) ∧ Below w.heap.size w w' := by
  go_enter Try.func62, Try.ntmps62
  go_wp2_with fail
  all_goals
    go_ret
    exact ⟨ret_int (by omega), (Below.refl _ _).alloc (Nat.le_refl _) _⟩
set_option maxRecDepth 100000 in
theorem bound_any (s : ByteArray) (at_ x : Int) (a1 : Option Addr) (n1 c1 : Nat) (mm : Option Nat) (a2 : Option Addr) (n2 c2 : Nat) (w : World) (hs : s.size ≤ 4611686018427387904) :
    Calls Try.prog 61 #[plVal s at_ a1 n1 c1 mm a2 n2 c2, .int .i64 x] w fun e w' => e = .returned (.int .i64 (bnd s.size x)) ∧ Below w.heap.size w w' := by
  have hl := fun w => last_any s at_ a1 n1 c1 mm a2 n2 c2 w hs
  have HLA := Lib.hid hl; clear hl
  have hb : bnd s.size x = if x < 0 then 0 else if ((s.size - 1 : Nat) : Int) < x then ((s.size - 1 : Nat) : Int) else x := rfl
  have HB := Lib.hid hb; clear hb
  generalize bnd s.size x = r at *
  generalize s.size - 1 = l at *
  go_enter Try.func61, Try.ntmps61
  go_wp2_with fail
  refine (HLA.out _).mono ?_
  rintro e w1 ⟨rfl, hb1⟩
  have hb := ((Below.refl w.heap.size w).alloc (Nat.le_refl _) (.cells #[.string s, .int .i64 at_, .slice a1 n1 c1, .map mm, .slice a2 n2 c2] 49)).trans (hb1.mono (by simp))
  go_wp2_with fail
  all_goals
    go_ret
    refine ⟨ret_int ?_, hb⟩
    rw [HB.out]
    repeat (first | omega | (split <;> try omega))
set_option maxRecDepth 100000 in
theorem Go_h (s : ByteArray) (at_ n : Int) (arg : ByteArray) (a1 : Option Addr) (n1 c1 : Nat) (mm : Option Nat) (a2 : Option Addr) (n2 c2 : Nat) (w : World) (hs : s.size ≤ 1000) (h0 : 0 ≤ at_) (h1 : at_ ≤ 1000) (hn : 1 ≤ n) (hn2 : n ≤ 100) :
    Calls Try.prog 26 #[plVal s at_ a1 n1 c1 mm a2 n2 c2, .int .u8 104, .int .i64 n, .string arg] w fun e w' => e = .returned (.tuple #[.int .i64 (bnd s.size (at_ - n)), .bool false, .nilIface]) ∧ Below w.heap.size w w' := by
  have hl := fun x w => bound_any s at_ x a1 n1 c1 mm a2 n2 c2 w (by omega)
  have HLA := Lib.hid hl; clear hl
  go_enter Try.func26, Try.ntmps26
  go_wp2_with fail
  refine (HLA.out _ _).mono ?_
  rintro e w1 ⟨rfl, hb1⟩
  have hb := ((Below.refl w.heap.size w).alloc (Nat.le_refl _) (.cells #[.string s, .int .i64 at_, .slice a1 n1 c1, .map mm, .slice a2 n2 c2] 49)).trans (hb1.mono (by simp))
  go_wp2_with fail
  go_ret3
  exact ⟨rfl, hb⟩
set_option maxRecDepth 100000 in
theorem Go_l (s : ByteArray) (at_ n : Int) (arg : ByteArray) (a1 : Option Addr) (n1 c1 : Nat) (mm : Option Nat) (a2 : Option Addr) (n2 c2 : Nat) (w : World) (hs : s.size ≤ 1000) (h0 : 0 ≤ at_) (h1 : at_ ≤ 1000) (hn : 1 ≤ n) (hn2 : n ≤ 100) :
    Calls Try.prog 26 #[plVal s at_ a1 n1 c1 mm a2 n2 c2, .int .u8 108, .int .i64 n, .string arg] w fun e w' => e = .returned (.tuple #[.int .i64 (bnd s.size (at_ + n)), .bool false, .nilIface]) ∧ Below w.heap.size w w' := by
  have hl := fun x w => bound_any s at_ x a1 n1 c1 mm a2 n2 c2 w (by omega)
  have HLA := Lib.hid hl; clear hl
  go_enter Try.func26, Try.ntmps26
  go_wp2_with fail
  refine (HLA.out _ _).mono ?_
  rintro e w1 ⟨rfl, hb1⟩
  have hb := ((Below.refl w.heap.size w).alloc (Nat.le_refl _) (.cells #[.string s, .int .i64 at_, .slice a1 n1 c1, .map mm, .slice a2 n2 c2] 49)).trans (hb1.mono (by simp))
  go_wp2_with fail
  go_ret3
  exact ⟨rfl, hb⟩
set_option maxRecDepth 100000 in
theorem Go_w (s : ByteArray) (at_ n : Int) (arg : ByteArray) (a1 : Option Addr) (n1 c1 : Nat) (mm : Option Nat) (a2 : Option Addr) (n2 c2 : Nat) (w : World) (hs : s.size ≤ 1000) (h0 : 0 ≤ at_) (h1 : at_ ≤ 1000) (hn : 1 ≤ n) (hn2 : n ≤ 100) :
    Calls Try.prog 26 #[plVal s at_ a1 n1 c1 mm a2 n2 c2, .int .u8 119, .int .i64 n, .string arg] w fun e w' => e = .returned (.tuple #[.int .i64 (bnd s.size (at_ - at_ % 4 + 4 * n)), .bool false, .nilIface]) ∧ Below w.heap.size w w' := by
  have hl := fun x w => bound_any s at_ x a1 n1 c1 mm a2 n2 c2 w (by omega)
  have HLA := Lib.hid hl; clear hl
  go_enter Try.func26, Try.ntmps26
  go_wp2_with fail
  refine (HLA.out _ _).mono ?_
  rintro e w1 ⟨rfl, hb1⟩
  have hb := ((Below.refl w.heap.size w).alloc (Nat.le_refl _) (.cells #[.string s, .int .i64 at_, .slice a1 n1 c1, .map mm, .slice a2 n2 c2] 49)).trans (hb1.mono (by simp))
  go_wp2_with fail
  go_ret3
  exact ⟨rfl, hb⟩
set_option maxRecDepth 100000 in
theorem Go_b (s : ByteArray) (at_ n : Int) (arg : ByteArray) (a1 : Option Addr) (n1 c1 : Nat) (mm : Option Nat) (a2 : Option Addr) (n2 c2 : Nat) (w : World) (hs : s.size ≤ 1000) (h0 : 0 ≤ at_) (h1 : at_ ≤ 1000) (hn : 1 ≤ n) (hn2 : n ≤ 100) :
    Calls Try.prog 26 #[plVal s at_ a1 n1 c1 mm a2 n2 c2, .int .u8 98, .int .i64 n, .string arg] w fun e w' => e = .returned (.tuple #[.int .i64 (bnd s.size ((at_ + 3) / 4 * 4 - 4 * n)), .bool false, .nilIface]) ∧ Below w.heap.size w w' := by
  have hl := fun x w => bound_any s at_ x a1 n1 c1 mm a2 n2 c2 w (by omega)
  have HLA := Lib.hid hl; clear hl
  go_enter Try.func26, Try.ntmps26
  go_wp2_with fail
  refine (HLA.out _ _).mono ?_
  rintro e w1 ⟨rfl, hb1⟩
  have hb := ((Below.refl w.heap.size w).alloc (Nat.le_refl _) (.cells #[.string s, .int .i64 at_, .slice a1 n1 c1, .map mm, .slice a2 n2 c2] 49)).trans (hb1.mono (by simp))
  go_wp2_with fail
  go_ret3
  exact ⟨rfl, hb⟩
set_option maxRecDepth 100000 in
theorem Go_j_no (s : ByteArray) (at_ n : Int) (arg : ByteArray) (a1 : Option Addr) (n1 c1 : Nat) (mm : Option Nat) (a2 : Option Addr) (n2 c2 : Nat) (w : World) (hs : s.size ≤ 1000) (h0 : 0 ≤ at_) (h1 : at_ ≤ 1000) (hn : 1 ≤ n) (hn2 : n ≤ 100) (hc : ((s.size - 1 : Nat) : Int) < at_ + 16 * n) :
    Calls Try.prog 26 #[plVal s at_ a1 n1 c1 mm a2 n2 c2, .int .u8 106, .int .i64 n, .string arg] w fun e w' => e = .returned (.tuple #[.int .i64 0, .bool false, .iface 85 (.int .i64 8)]) ∧ Below w.heap.size w w' := by
  have hl := fun w => last_any s at_ a1 n1 c1 mm a2 n2 c2 w (by omega)
  have HLA := Lib.hid hl; clear hl
  generalize s.size - 1 = l at *
  go_enter Try.func26, Try.ntmps26
  go_wp2_with fail
  refine (HLA.out _).mono ?_
  rintro e w1 ⟨rfl, hb1⟩
  have hb := ((Below.refl w.heap.size w).alloc (Nat.le_refl _) (.cells #[.string s, .int .i64 at_, .slice a1 n1 c1, .map mm, .slice a2 n2 c2] 49)).trans (hb1.mono (by simp))
  go_wp2_with fail
  go_ret3
  exact ⟨rfl, hb⟩
set_option maxRecDepth 100000 in
theorem Go_j_yes (s : ByteArray) (at_ n : Int) (arg : ByteArray) (a1 : Option Addr) (n1 c1 : Nat) (mm : Option Nat) (a2 : Option Addr) (n2 c2 : Nat) (w : World) (hs : s.size ≤ 1000) (h0 : 0 ≤ at_) (h1 : at_ ≤ 1000) (hn : 1 ≤ n) (hn2 : n ≤ 100) (hc : at_ + 16 * n ≤ ((s.size - 1 : Nat) : Int)) :
    Calls Try.prog 26 #[plVal s at_ a1 n1 c1 mm a2 n2 c2, .int .u8 106, .int .i64 n, .string arg] w fun e w' => e = .returned (.tuple #[.int .i64 (at_ + 16 * n), .bool false, .nilIface]) ∧ Below w.heap.size w w' := by
  have hl := fun w => last_any s at_ a1 n1 c1 mm a2 n2 c2 w (by omega)
  have HLA := Lib.hid hl; clear hl
  generalize s.size - 1 = l at *
  go_enter Try.func26, Try.ntmps26
  go_wp2_with fail
  refine (HLA.out _).mono ?_
  rintro e w1 ⟨rfl, hb1⟩
  have hb := ((Below.refl w.heap.size w).alloc (Nat.le_refl _) (.cells #[.string s, .int .i64 at_, .slice a1 n1 c1, .map mm, .slice a2 n2 c2] 49)).trans (hb1.mono (by simp))
  go_wp2_with fail
  go_ret3
  exact ⟨rfl, hb⟩
set_option maxRecDepth 100000 in
theorem Go_k_no (s : ByteArray) (at_ n : Int) (arg : ByteArray) (a1 : Option Addr) (n1 c1 : Nat) (mm : Option Nat) (a2 : Option Addr) (n2 c2 : Nat) (w : World) (hs : s.size ≤ 1000) (h0 : 0 ≤ at_) (h1 : at_ ≤ 1000) (hn : 1 ≤ n) (hn2 : n ≤ 100) (hc : at_ - 16 * n < 0) :
    Calls Try.prog 26 #[plVal s at_ a1 n1 c1 mm a2 n2 c2, .int .u8 107, .int .i64 n, .string arg] w fun e w' => e = .returned (.tuple #[.int .i64 0, .bool false, .iface 85 (.int .i64 8)]) ∧ Below w.heap.size w w' := by
  have hl := fun w => last_any s at_ a1 n1 c1 mm a2 n2 c2 w (by omega)
  have HLA := Lib.hid hl; clear hl
  generalize s.size - 1 = l at *
  go_enter Try.func26, Try.ntmps26
  go_wp2_with fail
  go_ret3
  exact ⟨rfl, (Below.refl _ _).alloc (Nat.le_refl _) _⟩
set_option maxRecDepth 100000 in
theorem Go_k_yes (s : ByteArray) (at_ n : Int) (arg : ByteArray) (a1 : Option Addr) (n1 c1 : Nat) (mm : Option Nat) (a2 : Option Addr) (n2 c2 : Nat) (w : World) (hs : s.size ≤ 1000) (h0 : 0 ≤ at_) (h1 : at_ ≤ 1000) (hn : 1 ≤ n) (hn2 : n ≤ 100) (hc : 0 ≤ at_ - 16 * n ∧ at_ ≤ ((s.size - 1 : Nat) : Int)) :
    Calls Try.prog 26 #[plVal s at_ a1 n1 c1 mm a2 n2 c2, .int .u8 107, .int .i64 n, .string arg] w fun e w' => e = .returned (.tuple #[.int .i64 (at_ - 16 * n), .bool false, .nilIface]) ∧ Below w.heap.size w w' := by
  have hl := fun w => last_any s at_ a1 n1 c1 mm a2 n2 c2 w (by omega)
  have HLA := Lib.hid hl; clear hl
  generalize s.size - 1 = l at *
  go_enter Try.func26, Try.ntmps26
  go_wp2_with fail
  refine (HLA.out _).mono ?_
  rintro e w1 ⟨rfl, hb1⟩
  have hb := ((Below.refl w.heap.size w).alloc (Nat.le_refl _) (.cells #[.string s, .int .i64 at_, .slice a1 n1 c1, .map mm, .slice a2 n2 c2] 49)).trans (hb1.mono (by simp))
  go_wp2_with fail
  go_ret3
  exact ⟨rfl, hb⟩
set_option maxRecDepth 100000 in
theorem Go_0 (s : ByteArray) (at_ : Int) (arg : ByteArray) (a1 : Option Addr) (n1 c1 : Nat) (mm : Option Nat) (a2 : Option Addr) (n2 c2 : Nat) (w : World) (h0 : 0 ≤ at_) (h1 : at_ ≤ 1000) :
    Calls Try.prog 26 #[plVal s at_ a1 n1 c1 mm a2 n2 c2, .int .u8 48, .int .i64 0, .string arg] w fun e w' => e = .returned (.tuple #[.int .i64 (at_ - at_ % 16), .bool false, .nilIface]) ∧ Below w.heap.size w w' := by
  go_enter Try.func26, Try.ntmps26
  go_wp2_with fail
  go_ret3
  exact ⟨rfl, (Below.refl _ _).alloc (Nat.le_refl _) _⟩
/-- a key that goes somewhere -/
theorem Go_ok (m : Nat) (hm : IsKey m) (x : Int) (s : ByteArray) (at_ n : Int) (arg : ByteArray) (a1 : Option Addr) (n1 c1 : Nat) (mm : Option Nat) (a2 : Option Addr) (n2 c2 : Nat) (w : World) (hs : s.size ≤ 1000) (h0 : 0 ≤ at_) (h1 : at_ ≤ ((s.size - 1 : Nat) : Int)) (hn : 1 ≤ n) (hn2 : n ≤ 100) (h : stp m s.size at_ n = some x) :
    Calls Try.prog 26 #[plVal s at_ a1 n1 c1 mm a2 n2 c2, .int .u8 (m : Nat), .int .i64 n, .string arg] w fun e w' => e = .returned (.tuple #[.int .i64 x, .bool false, .nilIface]) ∧ Below w.heap.size w w' := by
  rcases hm with rfl | rfl | rfl | rfl | rfl | rfl <;> simp [stp] at h
  · subst h; exact Go_h s at_ n arg a1 n1 c1 mm a2 n2 c2 w hs h0 (by omega) hn hn2
  · subst h; exact Go_l s at_ n arg a1 n1 c1 mm a2 n2 c2 w hs h0 (by omega) hn hn2
  · subst h; exact Go_w s at_ n arg a1 n1 c1 mm a2 n2 c2 w hs h0 (by omega) hn hn2
  · subst h; exact Go_b s at_ n arg a1 n1 c1 mm a2 n2 c2 w hs h0 (by omega) hn hn2
  · obtain ⟨h2, rfl⟩ := h; exact Go_j_yes s at_ n arg a1 n1 c1 mm a2 n2 c2 w hs h0 (by omega) hn hn2 (by omega)
  · obtain ⟨h2, rfl⟩ := h; exact Go_k_yes s at_ n arg a1 n1 c1 mm a2 n2 c2 w hs h0 (by omega) hn hn2 ⟨by omega, h1⟩
theorem Go_bad (m : Nat) (hm : IsKey m) (s : ByteArray) (at_ n : Int) (arg : ByteArray) (a1 : Option Addr) (n1 c1 : Nat) (mm : Option Nat) (a2 : Option Addr) (n2 c2 : Nat) (w : World) (hs : s.size ≤ 1000) (h0 : 0 ≤ at_) (h1 : at_ ≤ ((s.size - 1 : Nat) : Int)) (hn : 1 ≤ n) (hn2 : n ≤ 100) (h : stp m s.size at_ n = none) :
    Calls Try.prog 26 #[plVal s at_ a1 n1 c1 mm a2 n2 c2, .int .u8 (m : Nat), .int .i64 n, .string arg] w fun e w' => e = .returned (.tuple #[.int .i64 0, .bool false, .iface 85 (.int .i64 8)]) ∧ Below w.heap.size w w' := by
  rcases hm with rfl | rfl | rfl | rfl | rfl | rfl <;> simp [stp] at h
  · exact Go_j_no s at_ n arg a1 n1 c1 mm a2 n2 c2 w hs h0 (by omega) hn hn2 (by omega)
  · exact Go_k_no s at_ n arg a1 n1 c1 mm a2 n2 c2 w hs h0 (by omega) hn hn2 (by omega)
end Go.Proofs.Ytenhblpegobbjaa
